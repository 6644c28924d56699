import Derived.Test.YtbbifdfldpfphaaGreatK3P4
import Derived.Test.YtbbifdfldpfphaaGreatK3P7
set_option linter.unusedSimpArgs false
set_option linter.unusedVariables false
set_option maxHeartbeats 4000000
set_option maxRecDepth 100000
namespace Go.Proofs.YtbbifdfldpfphaaGreat
open Go.Vm
def uH (m : Nat) (p1 : a8) (q0 : Bool) (q1 : Int) : Option (Lp (Bool × Int) (Lp (Int × (List aE) × (List aA) × (List aI) × (List aK)) (Int × Int × (List aE) × (List aA) × (List aI) × (List aK)))) :=
 if (decide (q1 < (p1.Chunks.length : Int))) = true then (after (if q0 = true then ((ix p1.Chunks q1).bind fun x0 => if x0.Staged = true then ((ix p1.Chunks q1).bind fun x1 => some (.brk ((x1.Locs.length : Int) == 0))) else some (.brk false)) else some (.brk false) : Option (Lp (Bool) (Lp (Bool × Int) (Lp (Int × (List aE) × (List aA) × (List aI) × (List aK)) (Int × Int × (List aE) × (List aA) × (List aI) × (List aK)))))) fun j0 => some (.go (j0, IntKind.wrap .i64 (q1 + 1)))) else some (.brk (q0, q1))
def uI (m : Nat) (p1 : a8) (q0 : List aA) (q1 : Int) : Option (Lp ((List aA) × Int) (Lp (Int × (List aE) × (List aA) × (List aI) × (List aK)) (Int × Int × (List aE) × (List aA) × (List aI) × (List aK)))) :=
 if (decide (q1 < (p1.Chunks.length : Int))) = true then ((ix p1.Chunks q1).bind fun x0 => (BB m q0 x0).bind fun y0 => some (.go (y0, IntKind.wrap .i64 (q1 + 1)))) else some (.brk (q0, q1))
def yL (m : Nat) (p1 : a8) (q0 : Bool) (q1 : Int) : Option (Lp (Bool × Int) (Lp (Int × (List aE) × (List aA) × (List aI) × (List aK)) (Lp (Int × (List aE) × (List aA) × (List aI) × (List aK)) (Lp (Int × (List aE) × (List aA) × (List aI) × (List aK)) (Int × Int × (List aE) × (List aA) × (List aI) × (List aK)))))) :=
 if (decide (q1 < (p1.Items.length : Int))) = true then (after (if q0 = true then ((ix p1.Items q1).bind fun x0 => if (decide (1 ≤ x0.Kind)) = true then ((ix p1.Items q1).bind fun x1 => some (.brk (decide (x1.Kind ≤ 3)))) else some (.brk false)) else some (.brk false) : Option (Lp (Bool) (Lp (Bool × Int) (Lp (Int × (List aE) × (List aA) × (List aI) × (List aK)) (Lp (Int × (List aE) × (List aA) × (List aI) × (List aK)) (Lp (Int × (List aE) × (List aA) × (List aI) × (List aK)) (Int × Int × (List aE) × (List aA) × (List aI) × (List aK)))))))) fun j0 => some (.go (j0, IntKind.wrap .i64 (q1 + 1)))) else some (.brk (q0, q1))
def yM (m : Nat) (p0 : aB) (p1 : a8) (x0 : aK) (q0 : Int) (q1 : List aE) (q2 : List aA) (q3 : List aI) (q4 : Int) : Option (Lp (Int × (List aE) × (List aA) × (List aI) × Int) (Lp (Int × (List aE) × (List aA) × (List aI) × (List aK)) (Lp (Int × (List aE) × (List aA) × (List aI) × (List aK)) (Lp (Int × (List aE) × (List aA) × (List aI) × (List aK)) (Int × Int × (List aE) × (List aA) × (List aI) × (List aK)))))) :=
 if (decide (q4 < (p1.Items.length : Int))) = true then ((ix p1.Items q4).bind fun x1 => (ix p1.Items q4).bind fun x2 => (ix p1.Items q4).bind fun x3 => (HT m ({ Seq := q0, Snaps := q1, Chunks := q2, Exps := q3, Vols := (p0.Vols.set p1.Vol.toNat ({ x0 with State := 2 })).set p1.Vol.toNat ({ ({ x0 with State := 2 } : aK) with Files := IntKind.wrap .i64 (x0.Files + 1) }) } : aB) x1 ({ Vol := p1.Vol, File := ({ ({ x0 with State := 2 } : aK) with Files := IntKind.wrap .i64 (x0.Files + 1) } : aK).Files, Off := x2.Off, Len := x3.Len } : bI)).bind fun y0 => if (!y0.1) = true then (some (.ret (.ret (.ret (.ret (8, y0.2.1, y0.2.2.1, y0.2.2.2.1, y0.2.2.2.2, (p0.Vols.set p1.Vol.toNat ({ x0 with State := 2 })).set p1.Vol.toNat ({ ({ x0 with State := 2 } : aK) with Files := IntKind.wrap .i64 (x0.Files + 1) }))))))) else some (.go (y0.2.1, y0.2.2.1, y0.2.2.2.1, y0.2.2.2.2, IntKind.wrap .i64 (q4 + 1)))) else some (.brk (q0, q1, q2, q3, q4))
def yN (m : Nat) (p0 : aB) (p1 : a8) (x0 : aK) (r0 : Int) (r1 : List aI) (q0 : List aE) (q1 : List aA) (q2 : Int) : Option (Lp ((List aE) × (List aA) × Int) (Lp (Int × (List aE) × (List aA) × (List aI) × (List aK)) (Lp (Int × (List aE) × (List aA) × (List aI) × (List aK)) (Lp (Int × (List aE) × (List aA) × (List aI) × (List aK)) (Int × Int × (List aE) × (List aA) × (List aI) × (List aK)))))) :=
 if (decide (q2 < (p1.Items.length : Int))) = true then ((ix p1.Items q2).bind fun x1 => after (if (x1.Kind == 3) = true then ((ix p1.Items q2).bind fun x2 => (EY m ({ Seq := r0, Snaps := q0, Chunks := q1, Exps := r1, Vols := (p0.Vols.set p1.Vol.toNat ({ x0 with State := 2 })).set p1.Vol.toNat ({ ({ x0 with State := 2 } : aK) with Files := IntKind.wrap .i64 (x0.Files + 1) }) } : aB) x2.Of).bind fun y0 => some (.brk (y0.2.1, y0.2.2))) else some (.brk (q0, q1)) : Option (Lp ((List aE) × (List aA)) (Lp ((List aE) × (List aA) × Int) (Lp (Int × (List aE) × (List aA) × (List aI) × (List aK)) (Lp (Int × (List aE) × (List aA) × (List aI) × (List aK)) (Lp (Int × (List aE) × (List aA) × (List aI) × (List aK)) (Int × Int × (List aE) × (List aA) × (List aI) × (List aK)))))))) fun ⟨j0, j1⟩ => some (.go (j0, j1, IntKind.wrap .i64 (q2 + 1)))) else some (.brk (q0, q1, q2))
def rX (m : Nat) (p0 : aB) (p1 : a8) (x0 : aK) (r0 : Int) (r1 : List aI) (r2 : List aE) (q0 : List aA) (q1 : Int) : Option (Lp ((List aA) × Int) (Lp ((List aA)) (Lp (Int × (List aE) × (List aA) × (List aI) × (List aK)) (Lp (Int × (List aE) × (List aA) × (List aI) × (List aK)) (Lp (Int × (List aE) × (List aA) × (List aI) × (List aK)) (Int × Int × (List aE) × (List aA) × (List aI) × (List aK))))))) :=
 if (decide (q1 < (p1.Items.length : Int))) = true then ((ix p1.Items q1).bind fun x1 => after (if (x1.Kind == 1) = true then ((ix p1.Items q1).bind fun x2 => (ID m ({ Seq := r0, Snaps := r2, Chunks := q0, Exps := r1, Vols := (p0.Vols.set p1.Vol.toNat ({ x0 with State := 2 })).set p1.Vol.toNat ({ ({ x0 with State := 2 } : aK) with Files := IntKind.wrap .i64 (x0.Files + 1) }) } : aB) x2.Id).bind fun y0 => after (if (decide (0 ≤ y0)) = true then ((ix q0 y0).bind fun x3 => (ix (q0.set y0.toNat ({ x3 with Staged := false })) y0).bind fun x4 => some (.brk ((q0.set y0.toNat ({ x3 with Staged := false })).set y0.toNat ({ x4 with Data := ([] : List Int) })))) else some (.brk q0) : Option (Lp ((List aA)) (Lp ((List aA)) (Lp ((List aA) × Int) (Lp ((List aA)) (Lp (Int × (List aE) × (List aA) × (List aI) × (List aK)) (Lp (Int × (List aE) × (List aA) × (List aI) × (List aK)) (Lp (Int × (List aE) × (List aA) × (List aI) × (List aK)) (Int × Int × (List aE) × (List aA) × (List aI) × (List aK)))))))))) fun j0 => some (.brk j0)) else some (.brk q0) : Option (Lp ((List aA)) (Lp ((List aA) × Int) (Lp ((List aA)) (Lp (Int × (List aE) × (List aA) × (List aI) × (List aK)) (Lp (Int × (List aE) × (List aA) × (List aI) × (List aK)) (Lp (Int × (List aE) × (List aA) × (List aI) × (List aK)) (Int × Int × (List aE) × (List aA) × (List aI) × (List aK))))))))) fun j1 => some (.go (j1, IntKind.wrap .i64 (q1 + 1)))) else some (.brk (q0, q1))
def rY (m : Nat) (p0 : aB) (p1 : a8) (q0 : List aA) (q1 : Int) : Option (Lp ((List aA) × Int) (Lp ((List aE) × (List aA) × (List aI) × (List aK)) (Lp (Int × (List aE) × (List aA) × (List aI) × (List aK)) (Lp (Int × (List aE) × (List aA) × (List aI) × (List aK)) (Lp (Int × (List aE) × (List aA) × (List aI) × (List aK)) (Int × Int × (List aE) × (List aA) × (List aI) × (List aK))))))) :=
 if (decide (q1 < (p0.Chunks.length : Int))) = true then ((ix p0.Chunks q1).bind fun x0 => (CW m x0.Locs p1.Vol).bind fun y0 => after (if ({ x0 with Locs := y0 }.Staged) = true then (some (.brk true)) else some (.brk (decide (0 < (({ x0 with Locs := y0 }.Locs).length : Int)))) : Option (Lp (Bool) (Lp ((List aA) × Int) (Lp ((List aE) × (List aA) × (List aI) × (List aK)) (Lp (Int × (List aE) × (List aA) × (List aI) × (List aK)) (Lp (Int × (List aE) × (List aA) × (List aI) × (List aK)) (Lp (Int × (List aE) × (List aA) × (List aI) × (List aK)) (Int × Int × (List aE) × (List aA) × (List aI) × (List aK))))))))) fun j0 => after (if j0 = true then ((app q0 ([{ x0 with Locs := y0 }] : List aA)).bind fun z0 => some (.brk z0)) else some (.brk q0) : Option (Lp ((List aA)) (Lp ((List aA) × Int) (Lp ((List aE) × (List aA) × (List aI) × (List aK)) (Lp (Int × (List aE) × (List aA) × (List aI) × (List aK)) (Lp (Int × (List aE) × (List aA) × (List aI) × (List aK)) (Lp (Int × (List aE) × (List aA) × (List aI) × (List aK)) (Int × Int × (List aE) × (List aA) × (List aI) × (List aK))))))))) fun j1 => some (.go (j1, IntKind.wrap .i64 (q1 + 1)))) else some (.brk (q0, q1))
def rZ (m : Nat) (p1 : a8) (q0 : List aE) (q1 : Int) : Option (Lp ((List aE) × Int) (Lp ((List aE) × (List aA) × (List aI) × (List aK)) (Lp (Int × (List aE) × (List aA) × (List aI) × (List aK)) (Lp (Int × (List aE) × (List aA) × (List aI) × (List aK)) (Lp (Int × (List aE) × (List aA) × (List aI) × (List aK)) (Int × Int × (List aE) × (List aA) × (List aI) × (List aK))))))) :=
 if (decide (q1 < (q0.length : Int))) = true then ((ix q0 q1).bind fun x0 => (CW m x0.Locs p1.Vol).bind fun y0 => (ix q0 q1).bind fun x1 => some (.go (q0.set q1.toNat ({ x1 with Locs := y0 }), IntKind.wrap .i64 (q1 + 1)))) else some (.brk (q0, q1))
def sA (m : Nat) (p0 : aB) (p1 : a8) (q0 : List aI) (q1 : Int) : Option (Lp ((List aI) × Int) (Lp ((List aE) × (List aA) × (List aI) × (List aK)) (Lp (Int × (List aE) × (List aA) × (List aI) × (List aK)) (Lp (Int × (List aE) × (List aA) × (List aI) × (List aK)) (Lp (Int × (List aE) × (List aA) × (List aI) × (List aK)) (Int × Int × (List aE) × (List aA) × (List aI) × (List aK))))))) :=
 if (decide (q1 < (p0.Exps.length : Int))) = true then ((ix p0.Exps q1).bind fun x0 => (CW m x0.Locs p1.Vol).bind fun y0 => after (if (decide (0 < (({ x0 with Locs := y0 }.Locs).length : Int))) = true then ((app q0 ([{ x0 with Locs := y0 }] : List aI)).bind fun z0 => some (.brk z0)) else some (.brk q0) : Option (Lp ((List aI)) (Lp ((List aI) × Int) (Lp ((List aE) × (List aA) × (List aI) × (List aK)) (Lp (Int × (List aE) × (List aA) × (List aI) × (List aK)) (Lp (Int × (List aE) × (List aA) × (List aI) × (List aK)) (Lp (Int × (List aE) × (List aA) × (List aI) × (List aK)) (Int × Int × (List aE) × (List aA) × (List aI) × (List aK))))))))) fun j0 => some (.go (j0, IntKind.wrap .i64 (q1 + 1)))) else some (.brk (q0, q1))
def OJ (m : Nat) (p0 : aB) (p1 : a8) : Option (Int × Int × (List aE) × (List aA) × (List aI) × (List aK)) :=
 after (if (p1.Kind == 1) = true then (after (if (p1.Snap.Seq == p0.Seq) = true then (some (.brk ((p1.Snap.Locs.length : Int) == 0))) else some (.brk false) : Option (Lp (Bool) (Lp (Int × (List aE) × (List aA) × (List aI) × (List aK)) (Int × Int × (List aE) × (List aA) × (List aI) × (List aK))))) fun j0 => after (aY (fun s => uH m p1 s.1 s.2) m (j0, 0)) fun ⟨r0, r1⟩ => if (!r0) = true then (some (.ret (1, p0.Seq, p0.Snaps, p0.Chunks, p0.Exps, p0.Vols))) else (u6 m ({ Seq := p0.Seq, Snaps := p0.Snaps, Chunks := p0.Chunks, Exps := p0.Exps, Vols := p0.Vols } : aB) p1.Snap.Man.Name).bind fun y0 => if (decide (0 ≤ y0)) = true then (some (.ret (9, p0.Seq, p0.Snaps, p0.Chunks, p0.Exps, p0.Vols))) else (app p0.Snaps ([p1.Snap] : List aE)).bind fun z0 => after (aY (fun s => uI m p1 s.1 s.2) m (p0.Chunks, 0)) fun ⟨r2, r3⟩ => some (.brk (IntKind.wrap .i64 (p0.Seq + 1), z0, r2, p0.Exps, p0.Vols))) else after (if (p1.Kind == 2) = true then ((EY m ({ Seq := p0.Seq, Snaps := p0.Snaps, Chunks := p0.Chunks, Exps := p0.Exps, Vols := p0.Vols } : aB) p1.Seq).bind fun y1 => if (!y1.1) = true then (some (.ret (.ret (8, p0.Seq, y1.2.1, y1.2.2, p0.Exps, p0.Vols)))) else some (.brk (p0.Seq, y1.2.1, y1.2.2, p0.Exps, p0.Vols))) else after (if (p1.Kind == 3) = true then (after ((CX m ({ Seq := p0.Seq, Snaps := p0.Snaps, Chunks := p0.Chunks, Exps := p0.Exps, Vols := p0.Vols } : aB) p1.Vol 1 2).bind fun y2 => if y2 = true then (if (decide (1 ≤ (p1.Items.length : Int))) = true then (some (.brk (decide ((p1.Items.length : Int) ≤ 64)))) else some (.brk false)) else some (.brk false) : Option (Lp (Bool) (Lp (Int × (List aE) × (List aA) × (List aI) × (List aK)) (Lp (Int × (List aE) × (List aA) × (List aI) × (List aK)) (Lp (Int × (List aE) × (List aA) × (List aI) × (List aK)) (Int × Int × (List aE) × (List aA) × (List aI) × (List aK))))))) fun j1 => after (aY (fun s => yL m p1 s.1 s.2) m (j1, 0)) fun ⟨r4, r5⟩ => if (!r4) = true then (some (.ret (.ret (.ret (1, p0.Seq, p0.Snaps, p0.Chunks, p0.Exps, p0.Vols))))) else (ix p0.Vols p1.Vol).bind fun x0 => after (aY (fun s => yM m p0 p1 x0 s.1 s.2.1 s.2.2.1 s.2.2.2.1 s.2.2.2.2) m (p0.Seq, p0.Snaps, p0.Chunks, p0.Exps, 0)) fun ⟨r6, r7, r8, r9, r10⟩ => after (aY (fun s => yN m p0 p1 x0 r6 r9 s.1 s.2.1 s.2.2) m (r7, r8, 0)) fun ⟨r11, r12, r13⟩ => after (if ((({ ({ x0 with State := 2 } : aK) with Files := IntKind.wrap .i64 (x0.Files + 1) } : aK).Pool) == 0) = true then (after (aY (fun s => rX m p0 p1 x0 r6 r9 r11 s.1 s.2) m (r12, 0)) fun ⟨r14, r15⟩ => some (.brk r14)) else some (.brk r12) : Option (Lp ((List aA)) (Lp (Int × (List aE) × (List aA) × (List aI) × (List aK)) (Lp (Int × (List aE) × (List aA) × (List aI) × (List aK)) (Lp (Int × (List aE) × (List aA) × (List aI) × (List aK)) (Int × Int × (List aE) × (List aA) × (List aI) × (List aK))))))) fun j2 => some (.brk (r6, r11, j2, r9, (p0.Vols.set p1.Vol.toNat ({ x0 with State := 2 })).set p1.Vol.toNat ({ ({ x0 with State := 2 } : aK) with Files := IntKind.wrap .i64 (x0.Files + 1) })))) else after (if (p1.Kind == 4) = true then ((CX m ({ Seq := p0.Seq, Snaps := p0.Snaps, Chunks := p0.Chunks, Exps := p0.Exps, Vols := p0.Vols } : aB) p1.Vol 2 2).bind fun y3 => if (!y3) = true then (some (.ret (.ret (.ret (.ret (1, p0.Seq, p0.Snaps, p0.Chunks, p0.Exps, p0.Vols)))))) else (ix p0.Vols p1.Vol).bind fun x1 => (ix (p0.Vols.set p1.Vol.toNat ({ x1 with State := 3 })) p1.Vol).bind fun x2 => after (aY (fun s => rY m p0 p1 s.1 s.2) m ([], 0)) fun ⟨r16, r17⟩ => after (aY (fun s => rZ m p1 s.1 s.2) m (p0.Snaps, 0)) fun ⟨r18, r19⟩ => after (aY (fun s => sA m p0 p1 s.1 s.2) m ([], 0)) fun ⟨r20, r21⟩ => some (.brk (r18, r16, r20, (p0.Vols.set p1.Vol.toNat ({ x1 with State := 3 })).set p1.Vol.toNat ({ x2 with Files := 0 })))) else after (if (p1.Kind == 5) = true then ((CX m ({ Seq := p0.Seq, Snaps := p0.Snaps, Chunks := p0.Chunks, Exps := p0.Exps, Vols := p0.Vols } : aB) p1.Vol 3 3).bind fun y4 => if (!y4) = true then (some (.ret (.ret (.ret (.ret (.ret (1, p0.Seq, p0.Snaps, p0.Chunks, p0.Exps, p0.Vols))))))) else (ix p0.Vols p1.Vol).bind fun x3 => (ix p0.Vols p1.Vol).bind fun x4 => (ix (p0.Vols.set p1.Vol.toNat ({ x4 with State := 1 })) p1.Vol).bind fun x5 => some (.brk ((p0.Vols.set p1.Vol.toNat ({ x4 with State := 1 })).set p1.Vol.toNat ({ x5 with Epoch := IntKind.wrap .i64 (x3.Epoch + 1) })))) else some (.brk p0.Vols) : Option (Lp ((List aK)) (Lp ((List aE) × (List aA) × (List aI) × (List aK)) (Lp (Int × (List aE) × (List aA) × (List aI) × (List aK)) (Lp (Int × (List aE) × (List aA) × (List aI) × (List aK)) (Lp (Int × (List aE) × (List aA) × (List aI) × (List aK)) (Int × Int × (List aE) × (List aA) × (List aI) × (List aK)))))))) fun j3 => some (.brk (p0.Snaps, p0.Chunks, p0.Exps, j3)) : Option (Lp ((List aE) × (List aA) × (List aI) × (List aK)) (Lp (Int × (List aE) × (List aA) × (List aI) × (List aK)) (Lp (Int × (List aE) × (List aA) × (List aI) × (List aK)) (Lp (Int × (List aE) × (List aA) × (List aI) × (List aK)) (Int × Int × (List aE) × (List aA) × (List aI) × (List aK))))))) fun ⟨j4, j5, j6, j7⟩ => some (.brk (p0.Seq, j4, j5, j6, j7)) : Option (Lp (Int × (List aE) × (List aA) × (List aI) × (List aK)) (Lp (Int × (List aE) × (List aA) × (List aI) × (List aK)) (Lp (Int × (List aE) × (List aA) × (List aI) × (List aK)) (Int × Int × (List aE) × (List aA) × (List aI) × (List aK)))))) fun ⟨j8, j9, j10, j11, j12⟩ => some (.brk (j8, j9, j10, j11, j12)) : Option (Lp (Int × (List aE) × (List aA) × (List aI) × (List aK)) (Lp (Int × (List aE) × (List aA) × (List aI) × (List aK)) (Int × Int × (List aE) × (List aA) × (List aI) × (List aK))))) fun ⟨j13, j14, j15, j16, j17⟩ => some (.brk (j13, j14, j15, j16, j17)) : Option (Lp (Int × (List aE) × (List aA) × (List aI) × (List aK)) (Int × Int × (List aE) × (List aA) × (List aI) × (List aK)))) fun ⟨j18, j19, j20, j21, j22⟩ => some (0, j18, j19, j20, j21, j22)
theorem Z9 {w : Nat} {p0 : aB} {p1 : a8} {o : Int × Int × (List aE) × (List aA) × (List aI) × (List aK)} (h : aH) {p0K : bZ} {gS : dD} (ok_Snaps : bJ gS 4 p0.Snaps.length) {gC : dD} (oC : bJ gC 35 p0.Chunks.length) {gE : dD} (oE : bJ gE 3 p0.Exps.length) {gV : dD} (oV : bJ gV 4 p0.Vols.length) (K0 : bS h [(some p0K, .obj 30 ([nZ p0.Seq, aZ gS, aZ gC, aZ gE, aZ gV])), (gS.t, .obj 60 (fl aN (p0.Snaps : List aE) gS.sp)), (gC.t, .obj 44 (fl aD (p0.Chunks : List aA) gC.sp)), (gE.t, .obj 99 (fl aR (p0.Exps : List aI) gE.sp)), (gV.t, .obj 49 (fl aT (p0.Vols : List aK) gV.sp))]) (m : OJ w p0 p1 = some o) :
 aP Tryz.prog 91 [.ptr p0K 0, .agg (aG p1)] (hp h [(some p0K, .obj 30 ([nZ p0.Seq, aZ gS, aZ gC, aZ gE, aZ gV])), (gS.t, .obj 60 (fl aN (p0.Snaps : List aE) gS.sp)), (gC.t, .obj 44 (fl aD (p0.Chunks : List aA) gC.sp)), (gE.t, .obj 99 (fl aR (p0.Exps : List aI) gE.sp)), (gV.t, .obj 49 (fl aT (p0.Vols : List aK) gV.sp))]) (fun r h' => ∃ g_Snaps' : dD, bJ g_Snaps' 4 (o.2.2.1 : List aE).length ∧ ∃ g_Chunks' : dD, bJ g_Chunks' 35 (o.2.2.2.1 : List aA).length ∧ ∃ g_Exps' : dD, bJ g_Exps' 3 (o.2.2.2.2.1 : List aI).length ∧ ∃ g_Vols' : dD, bJ g_Vols' 4 (o.2.2.2.2.2 : List aK).length ∧ bS h [(some p0K, .obj 30 ([nZ o.2.1, aZ g_Snaps', aZ g_Chunks', aZ g_Exps', aZ g_Vols'])), (g_Snaps'.t, .obj 60 (fl aN (o.2.2.1 : List aE) g_Snaps'.sp)), (g_Chunks'.t, .obj 44 (fl aD (o.2.2.2.1 : List aA) g_Chunks'.sp)), (g_Exps'.t, .obj 99 (fl aR (o.2.2.2.2.1 : List aI) g_Exps'.sp)), (g_Vols'.t, .obj 49 (fl aT (o.2.2.2.2.2 : List aK) g_Vols'.sp))] ∧ r = nZ o.1 ∧ h' = hp h [(some p0K, .obj 30 ([nZ o.2.1, aZ g_Snaps', aZ g_Chunks', aZ g_Exps', aZ g_Vols'])), (g_Snaps'.t, .obj 60 (fl aN (o.2.2.1 : List aE) g_Snaps'.sp)), (g_Chunks'.t, .obj 44 (fl aD (o.2.2.2.1 : List aA) g_Chunks'.sp)), (g_Exps'.t, .obj 99 (fl aR (o.2.2.2.2.1 : List aI) g_Exps'.sp)), (g_Vols'.t, .obj 49 (fl aT (o.2.2.2.2.2 : List aK) g_Vols'.sp))]) := by
 refine AE K0 443 [.tmp 4] Tryz.func91 rfl rfl rfl rfl ?_
 unfold OJ at m
 refine vs (v0 ?_)
 refine ve fun u => cQ u rfl rfl fun k2 K3 => qk K3 rfl ?_
 refine vs (vs (v0 (vn (fun _ => aJ xU rfl rfl) (vl 0 _ cG rfl rfl rfl (v0 (vs (v0 ?_)))))))
 refine pX m (σ := Int × (List aE) × (List aA) × (List aI) × (List aK)) (τ := dD × dD × dD × dD) (fun g s => [(some k2, .obj 62 (aG p1)), (some p0K, .obj 30 ([nZ s.1, aZ g.1, aZ g.2.1, aZ g.2.2.1, aZ g.2.2.2])), (g.1.t, .obj 60 (fl aN (s.2.1 : List aE) g.1.sp)), (g.2.1.t, .obj 44 (fl aD (s.2.2.1 : List aA) g.2.1.sp)), (g.2.2.1.t, .obj 99 (fl aR (s.2.2.2.1 : List aI) g.2.2.1.sp)), (g.2.2.2.t, .obj 49 (fl aT (s.2.2.2.2 : List aK) g.2.2.2.sp))]) (fun g s => bJ g.1 4 (s.2.1 : List aE).length ∧ bJ g.2.1 35 (s.2.2.1 : List aA).length ∧ bJ g.2.2.1 3 (s.2.2.2.1 : List aI).length ∧ bJ g.2.2.2 4 (s.2.2.2.2 : List aK).length) (fun g s => .nil) (fun x m => ?_) ?_
 refine v0 ?_
 refine vi m (fun c0 m => ?_) fun c0 m => ?_
 refine vs ?_
 refine cW m (σ := Bool) (τ := Unit) (fun g s => [(some k2, .obj 62 (aG p1)), (some p0K, .obj 30 ([nZ p0.Seq, aZ gS, aZ gC, aZ gE, aZ gV])), (gS.t, .obj 60 (fl aN (p0.Snaps : List aE) gS.sp)), (gC.t, .obj 44 (fl aD (p0.Chunks : List aA) gC.sp)), (gE.t, .obj 99 (fl aR (p0.Exps : List aI) gE.sp)), (gV.t, .obj 49 (fl aT (p0.Vols : List aK) gV.sp))]) (fun g s => .c 0 (.ptr p0K 0) (.c 3 (.ptr k2 0) (.c 5 (.sc (.bool s)) .nil))) (fun x m => ?_) ?_
 refine v0 (AK (by kernel_rfl) (vn (fun _ => aJ jA rfl rfl) (vn (fun _ => aJ qI rfl rfl) (vl 0 _ cG rfl rfl rfl (vn (fun _ => bU rfl) (vn (fun _ => aJ m6 rfl rfl) (vl 1 _ cG rfl rfl rfl ?_)))))))
 refine vi m (fun b0 m => ?_) fun b0 m => ?_
 rw [b0]
 refine vn (fun _ => aJ jA rfl rfl) (vn (fun _ => aJ iV rfl rfl) (vl 0 _ fE rfl rfl rfl (dH iF rfl ?_)))
 exact bD m (lx (.k3 .nil))
 rw [b0]
 exact bD m (lx (.k3 .nil))
 rintro _ j0 m
 refine vs (vs (v0 ?_))
 refine eO m (σ := Bool × Int) (τ := Unit) (fun g s => [(some k2, .obj 62 (aG p1)), (some p0K, .obj 30 ([nZ p0.Seq, aZ gS, aZ gC, aZ gE, aZ gV])), (gS.t, .obj 60 (fl aN (p0.Snaps : List aE) gS.sp)), (gC.t, .obj 44 (fl aD (p0.Chunks : List aA) gC.sp)), (gE.t, .obj 99 (fl aR (p0.Exps : List aI) gE.sp)), (gV.t, .obj 49 (fl aT (p0.Vols : List aK) gV.sp))]) (fun g s => .c 0 (.ptr p0K 0) (.c 3 (.ptr k2 0) (.c 5 (.sc (.bool s.1)) (.c 6 (nZ s.2) .nil)))) () (lx (.k4 .nil)) ?_ ?_
 rintro _ ⟨q0, q1⟩ x m
 replace m : uH w p1 q0 q1 = some x := m
 unfold uH at m
 refine vs (vs (v0 (vn (fun _ => aJ kL rfl rfl) (vl 0 _ eF rfl rfl rfl (dH hS rfl (v0 ?_))))))
 refine vi m (fun c1 m => ?_) fun c1 m => ?_
 refine v0 (vs (v0 ?_))
 refine cW m (σ := Bool) (τ := Unit) (fun g s => [(some k2, .obj 62 (aG p1)), (some p0K, .obj 30 ([nZ p0.Seq, aZ gS, aZ gC, aZ gE, aZ gV])), (gS.t, .obj 60 (fl aN (p0.Snaps : List aE) gS.sp)), (gC.t, .obj 44 (fl aD (p0.Chunks : List aA) gC.sp)), (gE.t, .obj 99 (fl aR (p0.Exps : List aI) gE.sp)), (gV.t, .obj 49 (fl aT (p0.Vols : List aK) gV.sp))]) (fun g s => .c 0 (.ptr p0K 0) (.c 3 (.ptr k2 0) (.c 5 (.sc (.bool s)) (.c 6 (nZ q1) .nil)))) (fun x m => ?_) ?_
 refine v0 ?_
 refine vi m (fun b1 m => ?_) fun b1 m => ?_
 rw [b1]
 refine vn (fun _ => aJ kL rfl rfl) (vl 0 _ eF rfl rfl rfl ?_)
 refine vx m eW rfl rfl fun x0 _ m => ?_
 refine vn (fun _ => mM qH rfl rfl) (va (.sc (.bool x0.Staged)) BG rfl rfl ?_)
 refine vi m (fun b2 m => ?_) fun b2 m => ?_
 rw [b2]
 refine vn (fun _ => aJ kL rfl rfl) (vl 0 _ eF rfl rfl rfl ?_)
 refine vx m eW rfl rfl fun x1 _ m => ?_
 refine vn (fun _ => mM iL rfl rfl) (va (.sl none 4 (List.map aQ x1.Locs)) fE rfl rfl (dH iF rfl ?_))
 exact bD m (lx (.k4 .nil))
 rw [b2]
 exact bD m (lx (.k4 .nil))
 rw [b1]
 exact bD m (lx (.k4 .nil))
 rintro _ j1 m
 refine v0 ?_
 exact bD m (lx (.k4 .nil))
 refine v0 ?_
 exact iS m (lx (.k4 .nil))
 rintro _ ⟨r0, r1⟩ m
 refine vs (vs (v0 (v0 ?_)))
 refine vi m (fun c2 m => ?_) fun c2 m => ?_
 refine vs (v0 (v0 ?_))
 refine gA m fun m => ?_
 cases m
 exact vr fun u => dY.of1 (.inl rfl) (fL _ _ (.sc (.int _ _)) rfl) (bO u [1, 2, 3, 4, 5] rfl).2 (aX.refl _ _) ⟨gS, ok_Snaps, gC, oC, gE, oE, gV, oV, (bO u [1, 2, 3, 4, 5] rfl).1, rfl, rfl⟩
 refine v0 (vs (vs (v0 (AK (by kernel_rfl) (vn (fun _ => bU rfl) (vl 1 (.agg ([nZ p0.Seq, aZ gS, aZ gC, aZ gE, aZ gV])) eK rfl rfl rfl (vn (fun _ => aJ jA rfl rfl) (vn (fun _ => aJ mA rfl rfl) (vn (fun _ => aJ F9 rfl rfl) (vl 0 _ uP rfl rfl rfl ?_))))))))))
 obtain ⟨_, Y0, m⟩ := aC m
 refine vn (fun u => cE (f8 (.cons (Br.agg (.cons (Br.refl _ _) (.cons (Br.aw 2 e8 ok_Snaps u rfl) (.cons (Br.aw 3 cM oC u rfl) (.cons (Br.aw 4 fB oE u rfl) (.cons (Br.aw 5 eJ oV u rfl) .nil)))))) (.cons (Br.refl _ _) .nil)) rfl (MN _ Y0)) rfl GV rfl) (v0 ?_)
 refine vi m (fun c3 m => ?_) fun c3 m => ?_
 refine vs (v0 (v0 ?_))
 refine gA m fun m => ?_
 cases m
 exact vr fun u => dY.of1 (.inl rfl) (fL _ _ (.sc (.int _ _)) rfl) (bO u [1, 2, 3, 4, 5] rfl).2 (aX.refl _ _) ⟨gS, ok_Snaps, gC, oC, gE, oE, gV, oV, (bO u [1, 2, 3, 4, 5] rfl).1, rfl, rfl⟩
 refine v0 (vs (v0 (vn (fun _ => bU rfl) (vn (fun _ => aJ m6 rfl rfl) (vl 1 _ cG rfl rfl rfl (vn (fun _ => bU rfl) (vn (fun _ => aJ m6 rfl rfl) ?_)))))))
 refine ve fun u => aL 1 ([nZ (IntKind.wrap .i64 (p0.Seq + 1)), aZ gS, aZ gC, aZ gE, aZ gV]) u rfl rfl rfl rfl xN rfl rfl fun K1 => qk K1 rfl ?_
 refine vs (v0 ?_)
 refine vz [(11, some p0K, .obj 30 ([nZ (IntKind.wrap .i64 (p0.Seq + 1)), aZ gS, aZ gC, aZ gE, aZ gV])), (1000000, some k2, .obj 62 (aG p1))] mixed (fun u => ⟨fun _ => aO 1 u rfl, fun _ => aO 0 u rfl, trivial⟩) fun u => ?_
 refine aM 0 rfl (fun _ _ _ _ => bN (.ptr _ _) rfl) ?_
 refine aM 1 rfl (fun _ _ _ _ => bN (.ptr _ _) rfl) ?_
 refine aM 2 rfl (fun _ _ _ _ => bU rfl) ?_
 refine aM 3 rfl (fun _ _ _ _ => aJ eP rfl rfl) ?_
 refine aM 4 rfl (fun _ _ hi hB => bH (aZ gS) fK rfl (At.s (bR.get 0 hi rfl (hB 11 (by kernel_rfl)))) rfl) ?_
 refine aM 5 rfl (fun _ _ _ _ => aJ jA rfl rfl) ?_
 refine aM 6 rfl (fun _ _ hi hB => bH (.agg (aN p1.Snap)) AI rfl (At.s (bR.get 1 hi rfl (hB 1000000 (by kernel_rfl)))) rfl) ?_
 refine aM 7 rfl (fun _ _ _ _ => eH (List.map aN ([p1.Snap] : List aE)) uS rfl rfl rfl rfl) ?_
 obtain ⟨z0, Z0, m⟩ := aC m
 refine eX 8 rfl (by kernel_rfl) (fR (c := aN) 2 Z0 uS rfl xT rfl e8 rfl rfl ok_Snaps u rfl fun ag0 O0 K2 => ⟨⟨fun _ => aO 1 K2 rfl, fun _ => aO 0 K2 rfl, trivial⟩, ?_⟩)
 refine aM 9 rfl (fun _ _ _ _ => bU rfl) ?_
 refine aM 10 rfl (fun _ _ _ _ => aJ eP rfl rfl) ?_
 refine eX 11 rfl (by kernel_rfl) (aL 1 ([nZ (IntKind.wrap .i64 (p0.Seq + 1)), aZ ag0, aZ gC, aZ gE, aZ gV]) K2 rfl rfl (cI rfl) (cK (bX _ _ _) rfl) F2 rfl rfl fun K4 => ⟨⟨fun e => absurd e (by decide), fun _ => aO 0 K4 rfl, trivial⟩, ?_⟩)
 refine dL (by kernel_rfl) (qk (f := .c 95 _ (.c 94 _ (.c 93 _ (.c 92 _ (.c 91 _ (.c 90 _ (.c 89 _ (.c 88 _ (.c 87 _ (.c 86 _ (.c 85 _ _))))))))))) K4 rfl ?_)
 refine vs (v0 ?_)
 refine lT m (σ := (List aA) × Int) (τ := dD) (fun g s => [(some k2, .obj 62 (aG p1)), (some p0K, .obj 30 ([nZ (IntKind.wrap .i64 (p0.Seq + 1)), aZ ag0, aZ g, aZ gE, aZ gV])), (ag0.t, .obj 60 (fl aN (z0 : List aE) ag0.sp)), (g.t, .obj 44 (fl aD (s.1 : List aA) g.sp)), (gE.t, .obj 99 (fl aR (p0.Exps : List aI) gE.sp)), (gV.t, .obj 49 (fl aT (p0.Vols : List aK) gV.sp))]) (fun g s => bJ g 35 (s.1 : List aA).length) (fun g s => .c 0 (.ptr p0K 0) (.c 3 (.ptr k2 0) (.c 7 (nZ s.2) .nil))) gC oC (lx (.k3 .nil)) ?_ ?_
 rintro ag1 ⟨q2, q3⟩ x O1 m
 replace m : uI w p1 q2 q3 = some x := m
 unfold uI at m
 refine vs (vs (v0 (vn (fun _ => aJ kL rfl rfl) (vl 0 _ eF rfl rfl rfl (dH hS rfl (v0 ?_))))))
 refine vi m (fun c4 m => ?_) fun c4 m => ?_
 refine v0 (vs (v0 (v0 ?_)))
 refine vz [(13, some p0K, .obj 30 ([nZ (IntKind.wrap .i64 (p0.Seq + 1)), aZ ag0, aZ ag1, aZ gE, aZ gV])), (1000000, some k2, .obj 62 (aG p1))] mixed (fun u => ⟨fun _ => aO 1 u rfl, fun _ => aO 0 u rfl, trivial⟩) fun u => ?_
 refine aM 0 rfl (fun _ _ _ _ => bN (.ptr _ _) rfl) ?_
 refine aM 1 rfl (fun _ _ _ _ => bN (.ptr _ _) rfl) ?_
 refine aM 2 rfl (fun _ _ _ _ => bU rfl) ?_
 refine aM 3 rfl (fun _ _ _ _ => aJ eL rfl rfl) ?_
 refine aM 4 rfl (fun _ _ hi hB => bH (aZ ag1) eF rfl (At.s (bR.get 0 hi rfl (hB 13 (by kernel_rfl)))) rfl) ?_
 refine aM 5 rfl (fun _ _ _ _ => aJ kL rfl rfl) ?_
 refine aM 6 rfl (fun _ _ hi hB => bH (.sl none 35 (List.map aD p1.Chunks)) eF rfl (At.s (bR.get 1 hi rfl (hB 1000000 (by kernel_rfl)))) rfl) ?_
 refine aM 7 rfl (fun _ _ _ _ => bN (.sc (.int _ _)) rfl) ?_
 obtain ⟨x2, X0, m⟩ := aC m
 refine aM 8 rfl (fun _ _ _ _ => mL X0 eW rfl rfl) ?_
 refine aM 9 rfl (fun _ _ _ _ => mW (.agg (aD x2)) lF rfl rfl) ?_
 obtain ⟨_, Y1, m⟩ := aC m
 refine eX 10 rfl (by kernel_rfl) (sW (s := 107) (.sl none 35 (List.map aD q2)) (aV (.cons_cons _ (.cons_cons _ (.cons_cons _ (.cons _ (.refl _))))) u).1 (Fz.aw 3 cM O1 u rfl (.refl _)) (cV (RW _ Y1) rfl RX rfl ?_))
 rintro x h' ⟨ag2, O2, K5, rfl, rfl⟩
 rw [gO]
 refine ⟨⟨fun _ => aO 2 (bS.co ((aV (.cons_cons _ (.cons_cons _ (.cons_cons _ (.cons _ (.refl _))))) u).2) K5) rfl, fun _ => aO 1 (bS.co ((aV (.cons_cons _ (.cons_cons _ (.cons_cons _ (.cons _ (.refl _))))) u).2) K5) rfl, trivial⟩, ?_⟩
 refine aM 11 rfl (fun _ _ _ _ => bU rfl) ?_
 refine aM 12 rfl (fun _ _ _ _ => aJ eL rfl rfl) ?_
 refine eX 13 rfl (by kernel_rfl) (aL 2 ([nZ (IntKind.wrap .i64 (p0.Seq + 1)), aZ ag0, aZ ag2, aZ gE, aZ gV]) (bS.co ((aV (.cons_cons _ (.cons_cons _ (.cons_cons _ (.cons _ (.refl _))))) u).2) K5) rfl rfl (cI rfl) (cK (bX _ _ _) rfl) xO rfl rfl fun K6 => ⟨⟨fun e => absurd e (by decide), fun _ => aO 1 K6 rfl, trivial⟩, ?_⟩)
 refine dL (by kernel_rfl) (qk (f := .c 115 _ (.c 114 _ (.c 113 _ (.c 112 _ (.c 111 _ (.c 110 _ (.c 109 _ (.c 108 _ (.c 107 _ (.c 106 _ (.c 105 _ (.c 104 _ (.c 103 _ _))))))))))))) K6 rfl ?_)
 refine v0 ?_
 exact fH m ag2 O2 (kR [1, 2, 3, 0, 4, 5] rfl rfl (.k3 .nil))
 refine v0 ?_
 exact lD m ag1 O1 (lx (.k3 .nil))
 rintro ag3 ⟨r2, r3⟩ t0 m
 exact fH m (ag0, ag3, gE, gV) ⟨O0, t0, oE, oV⟩ (lx .nil)
 refine vs (v0 ?_)
 refine pX m (σ := Int × (List aE) × (List aA) × (List aI) × (List aK)) (τ := dD × dD × dD × dD) (fun g s => [(some k2, .obj 62 (aG p1)), (some p0K, .obj 30 ([nZ s.1, aZ g.1, aZ g.2.1, aZ g.2.2.1, aZ g.2.2.2])), (g.1.t, .obj 60 (fl aN (s.2.1 : List aE) g.1.sp)), (g.2.1.t, .obj 44 (fl aD (s.2.2.1 : List aA) g.2.1.sp)), (g.2.2.1.t, .obj 99 (fl aR (s.2.2.2.1 : List aI) g.2.2.1.sp)), (g.2.2.2.t, .obj 49 (fl aT (s.2.2.2.2 : List aK) g.2.2.2.sp))]) (fun g s => bJ g.1 4 (s.2.1 : List aE).length ∧ bJ g.2.1 35 (s.2.2.1 : List aA).length ∧ bJ g.2.2.1 3 (s.2.2.2.1 : List aI).length ∧ bJ g.2.2.2 4 (s.2.2.2.2 : List aK).length) (fun g s => .nil) (fun x m => ?_) ?_
 refine v0 ?_
 refine vi m (fun c5 m => ?_) fun c5 m => ?_
 refine vs (v0 (vn (fun _ => aJ L5 rfl rfl) (vl 0 _ cG rfl rfl rfl ?_)))
 obtain ⟨y0, Y2, m⟩ := aC m
 refine ve fun u => dX ((bK u [1, 2, 3, 4, 5, 0] rfl rfl).1.trans (dM h [(some p0K, .obj 30 ([nZ p0.Seq, aZ gS, aZ gC, aZ gE, aZ gV])), (gS.t, .obj 60 (fl aN (p0.Snaps : List aE) gS.sp)), (gC.t, .obj 44 (fl aD (p0.Chunks : List aA) gC.sp)), (gE.t, .obj 99 (fl aR (p0.Exps : List aI) gE.sp)), (gV.t, .obj 49 (fl aT (p0.Vols : List aK) gV.sp))] [(some k2, .obj 62 (aG p1))]).symm) (cV (RZ (hp h [(some k2, .obj 62 (aG p1))]) ok_Snaps oC oE oV (dG [(some p0K, .obj 30 ([nZ p0.Seq, aZ gS, aZ gC, aZ gE, aZ gV])), (gS.t, .obj 60 (fl aN (p0.Snaps : List aE) gS.sp)), (gC.t, .obj 44 (fl aD (p0.Chunks : List aA) gC.sp)), (gE.t, .obj 99 (fl aR (p0.Exps : List aI) gE.sp)), (gV.t, .obj 49 (fl aT (p0.Vols : List aK) gV.sp))] [(some k2, .obj 62 (aG p1))] (bK u [1, 2, 3, 4, 5, 0] rfl rfl).2).2 Y2) rfl KU rfl ?_)
 rintro x h' ⟨ag4, O3, ag5, O4, K7, rfl, rfl⟩
 have K8 := bK (L' := [(some k2, .obj 62 (aG p1)), (some p0K, .obj 30 ([nZ p0.Seq, aZ ag4, aZ ag5, aZ gE, aZ gV])), (ag4.t, .obj 60 (fl aN (y0.2.1 : List aE) ag4.sp)), (ag5.t, .obj 44 (fl aD (y0.2.2 : List aA) ag5.sp)), (gE.t, .obj 99 (fl aR (p0.Exps : List aI) gE.sp)), (gV.t, .obj 49 (fl aT (p0.Vols : List aK) gV.sp))]) (eU (dG [(some p0K, .obj 30 ([nZ p0.Seq, aZ gS, aZ gC, aZ gE, aZ gV])), (gS.t, .obj 60 (fl aN (p0.Snaps : List aE) gS.sp)), (gC.t, .obj 44 (fl aD (p0.Chunks : List aA) gC.sp)), (gE.t, .obj 99 (fl aR (p0.Exps : List aI) gE.sp)), (gV.t, .obj 49 (fl aT (p0.Vols : List aK) gV.sp))] [(some k2, .obj 62 (aG p1))] (bK u [1, 2, 3, 4, 5, 0] rfl rfl).2).1 K7) [5, 0, 1, 2, 3, 4] rfl rfl
 refine qk K8.2 ((dM h [(some p0K, .obj 30 ([nZ p0.Seq, aZ ag4, aZ ag5, aZ gE, aZ gV])), (ag4.t, .obj 60 (fl aN (y0.2.1 : List aE) ag4.sp)), (ag5.t, .obj 44 (fl aD (y0.2.2 : List aA) ag5.sp)), (gE.t, .obj 99 (fl aR (p0.Exps : List aI) gE.sp)), (gV.t, .obj 49 (fl aT (p0.Vols : List aK) gV.sp))] [(some k2, .obj 62 (aG p1))]).trans K8.1) ?_
 refine v0 ?_
 refine vi m (fun c6 m => ?_) fun c6 m => ?_
 refine vs (v0 (v0 ?_))
 refine gA m fun m => ?_
 refine gA m fun m => ?_
 cases m
 exact vr fun u => dY.of1 (.inl rfl) (fL _ _ (.sc (.int _ _)) rfl) (bO u [1, 2, 3, 4, 5] rfl).2 (aX.refl _ _) ⟨ag4, O3, ag5, O4, gE, oE, gV, oV, (bO u [1, 2, 3, 4, 5] rfl).1, rfl, rfl⟩
 refine v0 ?_
 exact fH m (ag4, ag5, gE, gV) ⟨O3, O4, oE, oV⟩ (lx .nil)
 refine vs (v0 ?_)
 refine pX m (σ := Int × (List aE) × (List aA) × (List aI) × (List aK)) (τ := dD × dD × dD × dD) (fun g s => [(some k2, .obj 62 (aG p1)), (some p0K, .obj 30 ([nZ s.1, aZ g.1, aZ g.2.1, aZ g.2.2.1, aZ g.2.2.2])), (g.1.t, .obj 60 (fl aN (s.2.1 : List aE) g.1.sp)), (g.2.1.t, .obj 44 (fl aD (s.2.2.1 : List aA) g.2.1.sp)), (g.2.2.1.t, .obj 99 (fl aR (s.2.2.2.1 : List aI) g.2.2.1.sp)), (g.2.2.2.t, .obj 49 (fl aT (s.2.2.2.2 : List aK) g.2.2.2.sp))]) (fun g s => bJ g.1 4 (s.2.1 : List aE).length ∧ bJ g.2.1 35 (s.2.2.1 : List aA).length ∧ bJ g.2.2.1 3 (s.2.2.2.1 : List aI).length ∧ bJ g.2.2.2 4 (s.2.2.2.2 : List aK).length) (fun g s => .nil) (fun x m => ?_) ?_
 refine v0 ?_
 refine vi m (fun c7 m => ?_) fun c7 m => ?_
 refine vs ?_
 refine cW m (σ := Bool) (τ := Unit) (fun g s => [(some k2, .obj 62 (aG p1)), (some p0K, .obj 30 ([nZ p0.Seq, aZ gS, aZ gC, aZ gE, aZ gV])), (gS.t, .obj 60 (fl aN (p0.Snaps : List aE) gS.sp)), (gC.t, .obj 44 (fl aD (p0.Chunks : List aA) gC.sp)), (gE.t, .obj 99 (fl aR (p0.Exps : List aI) gE.sp)), (gV.t, .obj 49 (fl aT (p0.Vols : List aK) gV.sp))]) (fun g s => .c 0 (.ptr p0K 0) (.c 3 (.ptr k2 0) (.c 8 (.sc (.bool s)) .nil))) (fun x m => ?_) ?_
 refine v0 (vn (fun _ => aJ fJ rfl rfl) (vl 0 _ cG rfl rfl rfl ?_))
 obtain ⟨_, Y3, m⟩ := aC m
 refine ve fun u => dX ((bK u [1, 2, 3, 4, 5, 0] rfl rfl).1.trans (dM h [(some p0K, .obj 30 ([nZ p0.Seq, aZ gS, aZ gC, aZ gE, aZ gV])), (gS.t, .obj 60 (fl aN (p0.Snaps : List aE) gS.sp)), (gC.t, .obj 44 (fl aD (p0.Chunks : List aA) gC.sp)), (gE.t, .obj 99 (fl aR (p0.Exps : List aI) gE.sp)), (gV.t, .obj 49 (fl aT (p0.Vols : List aK) gV.sp))] [(some k2, .obj 62 (aG p1))]).symm) (cV (NR (hp h [(some k2, .obj 62 (aG p1))]) ok_Snaps oC oE oV (dG [(some p0K, .obj 30 ([nZ p0.Seq, aZ gS, aZ gC, aZ gE, aZ gV])), (gS.t, .obj 60 (fl aN (p0.Snaps : List aE) gS.sp)), (gC.t, .obj 44 (fl aD (p0.Chunks : List aA) gC.sp)), (gE.t, .obj 99 (fl aR (p0.Exps : List aI) gE.sp)), (gV.t, .obj 49 (fl aT (p0.Vols : List aK) gV.sp))] [(some k2, .obj 62 (aG p1))] (bK u [1, 2, 3, 4, 5, 0] rfl rfl).2).2 Y3) rfl HS rfl ?_)
 rintro x h' ⟨K9, rfl, rfl⟩
 have K10 := bK (L' := [(some k2, .obj 62 (aG p1)), (some p0K, .obj 30 ([nZ p0.Seq, aZ gS, aZ gC, aZ gE, aZ gV])), (gS.t, .obj 60 (fl aN (p0.Snaps : List aE) gS.sp)), (gC.t, .obj 44 (fl aD (p0.Chunks : List aA) gC.sp)), (gE.t, .obj 99 (fl aR (p0.Exps : List aI) gE.sp)), (gV.t, .obj 49 (fl aT (p0.Vols : List aK) gV.sp))]) (eU (dG [(some p0K, .obj 30 ([nZ p0.Seq, aZ gS, aZ gC, aZ gE, aZ gV])), (gS.t, .obj 60 (fl aN (p0.Snaps : List aE) gS.sp)), (gC.t, .obj 44 (fl aD (p0.Chunks : List aA) gC.sp)), (gE.t, .obj 99 (fl aR (p0.Exps : List aI) gE.sp)), (gV.t, .obj 49 (fl aT (p0.Vols : List aK) gV.sp))] [(some k2, .obj 62 (aG p1))] (bK u [1, 2, 3, 4, 5, 0] rfl rfl).2).1 K9) [5, 0, 1, 2, 3, 4] rfl rfl
 refine qk K10.2 ((dM h [(some p0K, .obj 30 ([nZ p0.Seq, aZ gS, aZ gC, aZ gE, aZ gV])), (gS.t, .obj 60 (fl aN (p0.Snaps : List aE) gS.sp)), (gC.t, .obj 44 (fl aD (p0.Chunks : List aA) gC.sp)), (gE.t, .obj 99 (fl aR (p0.Exps : List aI) gE.sp)), (gV.t, .obj 49 (fl aT (p0.Vols : List aK) gV.sp))] [(some k2, .obj 62 (aG p1))]).trans K10.1) ?_
 refine vi m (fun b3 m => ?_) fun b3 m => ?_
 rw [b3]
 refine vn (fun _ => aJ hX rfl rfl) (vl 0 _ kK rfl rfl rfl (dH oI rfl ?_))
 refine vi m (fun b4 m => ?_) fun b4 m => ?_
 rw [b4]
 refine vn (fun _ => aJ hX rfl rfl) (vl 0 _ kK rfl rfl rfl (dH oI rfl ?_))
 exact bD m (lx (.k3 .nil))
 rw [b4]
 exact bD m (lx (.k3 .nil))
 rw [b3]
 exact bD m (lx (.k3 .nil))
 rintro _ j2 m
 refine vs (vs (v0 ?_))
 refine eO m (σ := Bool × Int) (τ := Unit) (fun g s => [(some k2, .obj 62 (aG p1)), (some p0K, .obj 30 ([nZ p0.Seq, aZ gS, aZ gC, aZ gE, aZ gV])), (gS.t, .obj 60 (fl aN (p0.Snaps : List aE) gS.sp)), (gC.t, .obj 44 (fl aD (p0.Chunks : List aA) gC.sp)), (gE.t, .obj 99 (fl aR (p0.Exps : List aI) gE.sp)), (gV.t, .obj 49 (fl aT (p0.Vols : List aK) gV.sp))]) (fun g s => .c 0 (.ptr p0K 0) (.c 3 (.ptr k2 0) (.c 8 (.sc (.bool s.1)) (.c 9 (nZ s.2) .nil)))) () (lx (.k4 .nil)) ?_ ?_
 rintro _ ⟨q4, q5⟩ x m
 replace m : yL w p1 q4 q5 = some x := m
 unfold yL at m
 refine vs (vs (v0 (vn (fun _ => aJ hX rfl rfl) (vl 0 _ kK rfl rfl rfl (dH oI rfl (v0 ?_))))))
 refine vi m (fun c8 m => ?_) fun c8 m => ?_
 refine v0 (vs (v0 ?_))
 refine cW m (σ := Bool) (τ := Unit) (fun g s => [(some k2, .obj 62 (aG p1)), (some p0K, .obj 30 ([nZ p0.Seq, aZ gS, aZ gC, aZ gE, aZ gV])), (gS.t, .obj 60 (fl aN (p0.Snaps : List aE) gS.sp)), (gC.t, .obj 44 (fl aD (p0.Chunks : List aA) gC.sp)), (gE.t, .obj 99 (fl aR (p0.Exps : List aI) gE.sp)), (gV.t, .obj 49 (fl aT (p0.Vols : List aK) gV.sp))]) (fun g s => .c 0 (.ptr p0K 0) (.c 3 (.ptr k2 0) (.c 8 (.sc (.bool s)) (.c 9 (nZ q5) .nil)))) (fun x m => ?_) ?_
 refine v0 ?_
 refine vi m (fun b5 m => ?_) fun b5 m => ?_
 rw [b5]
 refine vn (fun _ => aJ hX rfl rfl) (vl 0 _ kK rfl rfl rfl ?_)
 refine vx m s9 rfl rfl fun x3 _ m => ?_
 refine vn (fun _ => mM l4 rfl rfl) (va (nZ x3.Kind) cG rfl rfl ?_)
 refine vi m (fun b6 m => ?_) fun b6 m => ?_
 rw [b6]
 refine vn (fun _ => aJ hX rfl rfl) (vl 0 _ kK rfl rfl rfl ?_)
 refine vx m s9 rfl rfl fun x4 _ m => ?_
 refine vn (fun _ => mM l4 rfl rfl) (va (nZ x4.Kind) cG rfl rfl ?_)
 exact bD m (lx (.k4 .nil))
 rw [b6]
 exact bD m (lx (.k4 .nil))
 rw [b5]
 exact bD m (lx (.k4 .nil))
 rintro _ j3 m
 refine v0 ?_
 exact bD m (lx (.k4 .nil))
 refine v0 ?_
 exact iS m (lx (.k4 .nil))
 rintro _ ⟨r4, r5⟩ m
 refine vs (vs (v0 (v0 ?_)))
 refine vi m (fun c9 m => ?_) fun c9 m => ?_
 refine vs (v0 (v0 ?_))
 refine gA m fun m => ?_
 refine gA m fun m => ?_
 refine gA m fun m => ?_
 cases m
 exact vr fun u => dY.of1 (.inl rfl) (fL _ _ (.sc (.int _ _)) rfl) (bO u [1, 2, 3, 4, 5] rfl).2 (aX.refl _ _) ⟨gS, ok_Snaps, gC, oC, gE, oE, gV, oV, (bO u [1, 2, 3, 4, 5] rfl).1, rfl, rfl⟩
 refine v0 (vs (v0 (AK (by kernel_rfl) (vn (fun _ => bU rfl) (vn (fun _ => aJ fI rfl rfl) (vl 1 (aZ gV) fZ rfl rfl rfl (vn (fun _ => aJ fJ rfl rfl) (vl 0 _ cG rfl rfl rfl ?_))))))))
 obtain ⟨x5, X1, m⟩ := aC m
 refine vn (fun _ => dE X1 i9 oV rfl rfl) (vs (v0 (vn (fun _ => i7 (bJ.ne oV X1) rfl) (vn (fun _ => dJ (bJ.ne oV X1) tA rfl rfl) (vn (fun u => eZ (fo := 3) (nZ x5.Files) X1 eJ oV cG rfl (aO 5 u rfl) (fun _ => rfl)) (vn (fun _ => i7 (bJ.ne oV X1) rfl) (vn (fun _ => dJ (bJ.ne oV X1) l8 rfl rfl) ?_)))))))
 refine ve fun u => cR (fo := 2) ({ x5 with State := 2 } : aK) 5 u X1 eJ oV rfl rfl rfl rfl (cO.refl _ _) xN rfl rfl fun K11 => qk K11 rfl ?_
 refine vn (fun _ => i7 (bJ.ne (bJ.set oV) (eN (x' := ({ x5 with State := 2 } : aK)) X1)) rfl) (vn (fun _ => dJ (bJ.ne (bJ.set oV) (eN (x' := ({ x5 with State := 2 } : aK)) X1)) tA rfl rfl) ?_)
 refine ve fun u => cR (fo := 3) ({ ({ x5 with State := 2 } : aK) with Files := IntKind.wrap .i64 (x5.Files + 1) } : aK) 5 u (eN (x' := ({ x5 with State := 2 } : aK)) X1) eJ (bJ.set oV) rfl rfl rfl rfl (cO.refl _ _) xN rfl rfl fun K12 => qk K12 rfl ?_
 refine vs (vs (v0 ?_))
 refine lT m (σ := Int × (List aE) × (List aA) × (List aI) × Int) (τ := dD × dD × dD) (fun g s => [(some k2, .obj 62 (aG p1)), (some p0K, .obj 30 ([nZ s.1, aZ g.1, aZ g.2.1, aZ g.2.2, aZ gV])), (g.1.t, .obj 60 (fl aN (s.2.1 : List aE) g.1.sp)), (g.2.1.t, .obj 44 (fl aD (s.2.2.1 : List aA) g.2.1.sp)), (g.2.2.t, .obj 99 (fl aR (s.2.2.2.1 : List aI) g.2.2.sp)), (gV.t, .obj 49 (fl aT ((p0.Vols.set p1.Vol.toNat ({ x5 with State := 2 })).set p1.Vol.toNat ({ ({ x5 with State := 2 } : aK) with Files := IntKind.wrap .i64 (x5.Files + 1) }) : List aK) gV.sp))]) (fun g s => bJ g.1 4 (s.2.1 : List aE).length ∧ bJ g.2.1 35 (s.2.2.1 : List aA).length ∧ bJ g.2.2 3 (s.2.2.2.1 : List aI).length) (fun g s => .c 0 (.ptr p0K 0) (.c 3 (.ptr k2 0) (.c 10 (vV gV.t (p1.Vol.toNat * 4 + 0)) (.c 11 (nZ s.2.2.2.2) .nil)))) (gS, gC, gE) (⟨ok_Snaps, oC, oE⟩) (lx (.k4 .nil)) ?_ ?_
 rintro ⟨ag6, ag7, ag8⟩ ⟨q6, q7, q8, q9, q10⟩ x ⟨O5, O6, O7⟩ m
 replace m : yM w p0 p1 x5 q6 q7 q8 q9 q10 = some x := m
 unfold yM at m
 refine vs (vs (v0 (vn (fun _ => aJ hX rfl rfl) (vl 0 _ kK rfl rfl rfl (dH oI rfl (v0 ?_))))))
 refine vi m (fun c10 m => ?_) fun c10 m => ?_
 refine v0 (vs (v0 (vs (v0 ?_))))
 refine vz [(1000000, some k2, .obj 62 (aG p1)), (1000000, gV.t, .obj 49 (fl aT ((p0.Vols.set p1.Vol.toNat ({ x5 with State := 2 })).set p1.Vol.toNat ({ ({ x5 with State := 2 } : aK) with Files := IntKind.wrap .i64 (x5.Files + 1) }) : List aK) gV.sp))] mixed (fun u => ⟨fun _ => aO 0 u rfl, fun _ => aO 5 u rfl, trivial⟩) fun u => ?_
 refine aM 0 rfl (fun _ _ _ _ => bN (.ptr _ _) rfl) ?_
 refine aM 1 rfl (fun _ _ _ _ => aJ hX rfl rfl) ?_
 refine aM 2 rfl (fun _ _ hi hB => bH (.sl none 37 (List.map bM p1.Items)) kK rfl (At.s (bR.get 0 hi rfl (hB 1000000 (by kernel_rfl)))) rfl) ?_
 refine aM 3 rfl (fun _ _ _ _ => bN (.sc (.int _ _)) rfl) ?_
 obtain ⟨x6, X2, m⟩ := aC m
 refine aM 4 rfl (fun _ _ _ _ => mL X2 s9 rfl rfl) ?_
 refine aM 5 rfl (fun _ _ _ _ => mW (.agg (bM x6)) F4 rfl rfl) ?_
 refine aM 6 rfl (fun _ _ _ _ => aJ fJ rfl rfl) ?_
 refine aM 7 rfl (fun _ _ hi hB => bH (nZ p1.Vol) cG rfl (At.s (bR.get 0 hi rfl (hB 1000000 (by kernel_rfl)))) rfl) ?_
 refine aM 8 rfl (fun _ _ _ _ => bN (vV _ _) rfl) ?_
 refine aM 9 rfl (fun _ _ _ _ => i7 (bJ.ne (bJ.set (bJ.set oV)) (eN (x' := ({ ({ x5 with State := 2 } : aK) with Files := IntKind.wrap .i64 (x5.Files + 1) } : aK)) (eN (x' := ({ x5 with State := 2 } : aK)) X1))) rfl) ?_
 refine aM 10 rfl (fun _ _ _ _ => dJ (bJ.ne (bJ.set (bJ.set oV)) (eN (x' := ({ ({ x5 with State := 2 } : aK) with Files := IntKind.wrap .i64 (x5.Files + 1) } : aK)) (eN (x' := ({ x5 with State := 2 } : aK)) X1))) tA rfl rfl) ?_
 refine aM 11 rfl (fun _ _ hi hB => eZ (fo := 3) (nZ (({ ({ x5 with State := 2 } : aK) with Files := IntKind.wrap .i64 (x5.Files + 1) } : aK).Files)) (eN (x' := ({ ({ x5 with State := 2 } : aK) with Files := IntKind.wrap .i64 (x5.Files + 1) } : aK)) (eN (x' := ({ x5 with State := 2 } : aK)) X1)) eJ (bJ.set (bJ.set oV)) cG rfl (bR.get 1 hi rfl (hB 1000000 (by kernel_rfl))) (fun _ => rfl)) ?_
 refine aM 12 rfl (fun _ _ _ _ => aJ hX rfl rfl) ?_
 refine aM 13 rfl (fun _ _ hi hB => bH (.sl none 37 (List.map bM p1.Items)) kK rfl (At.s (bR.get 0 hi rfl (hB 1000000 (by kernel_rfl)))) rfl) ?_
 refine aM 14 rfl (fun _ _ _ _ => bN (.sc (.int _ _)) rfl) ?_
 obtain ⟨x7, X3, m⟩ := aC m
 refine aM 15 rfl (fun _ _ _ _ => mL X3 s9 rfl rfl) ?_
 refine aM 16 rfl (fun _ _ _ _ => mM F5 rfl rfl) ?_
 refine aM 17 rfl (fun _ _ _ _ => mW (nZ x7.Off) cG rfl rfl) ?_
 refine aM 18 rfl (fun _ _ _ _ => aJ hX rfl rfl) ?_
 refine aM 19 rfl (fun _ _ hi hB => bH (.sl none 37 (List.map bM p1.Items)) kK rfl (At.s (bR.get 0 hi rfl (hB 1000000 (by kernel_rfl)))) rfl) ?_
 refine aM 20 rfl (fun _ _ _ _ => bN (.sc (.int _ _)) rfl) ?_
 obtain ⟨x8, X4, m⟩ := aC m
 refine aM 21 rfl (fun _ _ _ _ => mL X4 s9 rfl rfl) ?_
 refine aM 22 rfl (fun _ _ _ _ => mM F6 rfl rfl) ?_
 refine aM 23 rfl (fun _ _ _ _ => mW (nZ x8.Len) cG rfl rfl) ?_
 refine aM 24 rfl (fun _ _ _ _ => eV (aQ ({ Vol := p1.Vol, File := ({ ({ x5 with State := 2 } : aK) with Files := IntKind.wrap .i64 (x5.Files + 1) } : aK).Files, Off := x7.Off, Len := x8.Len } : bI)) TQ rfl) ?_
 obtain ⟨y1, Y4, m⟩ := aC m
 refine eX 25 rfl (by kernel_rfl) (dX ((bK u [1, 2, 3, 4, 5, 0] rfl rfl).1.trans (dM h [(some p0K, .obj 30 ([nZ q6, aZ ag6, aZ ag7, aZ ag8, aZ gV])), (ag6.t, .obj 60 (fl aN (q7 : List aE) ag6.sp)), (ag7.t, .obj 44 (fl aD (q8 : List aA) ag7.sp)), (ag8.t, .obj 99 (fl aR (q9 : List aI) ag8.sp)), (gV.t, .obj 49 (fl aT ((p0.Vols.set p1.Vol.toNat ({ x5 with State := 2 })).set p1.Vol.toNat ({ ({ x5 with State := 2 } : aK) with Files := IntKind.wrap .i64 (x5.Files + 1) }) : List aK) gV.sp))] [(some k2, .obj 62 (aG p1))]).symm) (cV (V8 (hp h [(some k2, .obj 62 (aG p1))]) O5 O6 O7 (bJ.set (bJ.set oV)) (dG [(some p0K, .obj 30 ([nZ q6, aZ ag6, aZ ag7, aZ ag8, aZ gV])), (ag6.t, .obj 60 (fl aN (q7 : List aE) ag6.sp)), (ag7.t, .obj 44 (fl aD (q8 : List aA) ag7.sp)), (ag8.t, .obj 99 (fl aR (q9 : List aI) ag8.sp)), (gV.t, .obj 49 (fl aT ((p0.Vols.set p1.Vol.toNat ({ x5 with State := 2 })).set p1.Vol.toNat ({ ({ x5 with State := 2 } : aK) with Files := IntKind.wrap .i64 (x5.Files + 1) }) : List aK) gV.sp))] [(some k2, .obj 62 (aG p1))] (bK u [1, 2, 3, 4, 5, 0] rfl rfl).2).2 Y4) rfl R0 rfl ?_))
 rintro x h' ⟨ag9, O8, ag10, O9, ag11, O10, K13, rfl, rfl⟩
 have K14 := bK (L' := [(some k2, .obj 62 (aG p1)), (some p0K, .obj 30 ([nZ y1.2.1, aZ ag9, aZ ag10, aZ ag11, aZ gV])), (ag9.t, .obj 60 (fl aN (y1.2.2.1 : List aE) ag9.sp)), (ag10.t, .obj 44 (fl aD (y1.2.2.2.1 : List aA) ag10.sp)), (ag11.t, .obj 99 (fl aR (y1.2.2.2.2 : List aI) ag11.sp)), (gV.t, .obj 49 (fl aT ((p0.Vols.set p1.Vol.toNat ({ x5 with State := 2 })).set p1.Vol.toNat ({ ({ x5 with State := 2 } : aK) with Files := IntKind.wrap .i64 (x5.Files + 1) }) : List aK) gV.sp))]) (eU (dG [(some p0K, .obj 30 ([nZ q6, aZ ag6, aZ ag7, aZ ag8, aZ gV])), (ag6.t, .obj 60 (fl aN (q7 : List aE) ag6.sp)), (ag7.t, .obj 44 (fl aD (q8 : List aA) ag7.sp)), (ag8.t, .obj 99 (fl aR (q9 : List aI) ag8.sp)), (gV.t, .obj 49 (fl aT ((p0.Vols.set p1.Vol.toNat ({ x5 with State := 2 })).set p1.Vol.toNat ({ ({ x5 with State := 2 } : aK) with Files := IntKind.wrap .i64 (x5.Files + 1) }) : List aK) gV.sp))] [(some k2, .obj 62 (aG p1))] (bK u [1, 2, 3, 4, 5, 0] rfl rfl).2).1 K13) [5, 0, 1, 2, 3, 4] rfl rfl
 refine mN ((dM h [(some p0K, .obj 30 ([nZ y1.2.1, aZ ag9, aZ ag10, aZ ag11, aZ gV])), (ag9.t, .obj 60 (fl aN (y1.2.2.1 : List aE) ag9.sp)), (ag10.t, .obj 44 (fl aD (y1.2.2.2.1 : List aA) ag10.sp)), (ag11.t, .obj 99 (fl aR (y1.2.2.2.2 : List aI) ag11.sp)), (gV.t, .obj 49 (fl aT ((p0.Vols.set p1.Vol.toNat ({ x5 with State := 2 })).set p1.Vol.toNat ({ ({ x5 with State := 2 } : aK) with Files := IntKind.wrap .i64 (x5.Files + 1) }) : List aK) gV.sp))] [(some k2, .obj 62 (aG p1))]).trans K14.1) ?_
 refine ⟨⟨fun _ => aO 0 K14.2 rfl, fun _ => aO 5 K14.2 rfl, trivial⟩, ?_⟩
 refine aM 26 rfl (fun _ _ _ _ => OW rfl) ?_
 refine dL (by kernel_rfl) (qk (f := .c 220 _ (.c 219 _ (.c 218 _ (.c 217 _ (.c 216 _ (.c 215 _ (.c 214 _ (.c 213 _ (.c 212 _ (.c 211 _ (.c 210 _ (.c 209 _ (.c 208 _ (.c 207 _ (.c 206 _ (.c 205 _ (.c 204 _ (.c 203 _ (.c 202 _ (.c 201 _ (.c 200 _ (.c 199 _ (.c 198 _ (.c 197 _ (.c 196 _ (.c 195 _ (.c 194 _ _))))))))))))))))))))))))))) K14.2 rfl ?_)
 refine v0 ?_
 refine vi m (fun c11 m => ?_) fun c11 m => ?_
 refine vs (v0 (v0 ?_))
 refine gA m fun m => ?_
 refine gA m fun m => ?_
 refine gA m fun m => ?_
 refine gA m fun m => ?_
 cases m
 exact vr fun u => dY.of1 (.inl rfl) (fL _ _ (.sc (.int _ _)) rfl) (bO u [1, 2, 3, 4, 5] rfl).2 (aX.refl _ _) ⟨ag9, O8, ag10, O9, ag11, O10, gV, (bJ.set (bJ.set oV)), (bO u [1, 2, 3, 4, 5] rfl).1, rfl, rfl⟩
 refine v0 (v0 ?_)
 exact fH m (ag9, ag10, ag11) ⟨O8, O9, O10⟩ (lx (.k4 .nil))
 refine v0 ?_
 exact lD m (ag6, ag7, ag8) ⟨O5, O6, O7⟩ (lx (.k4 .nil))
 rintro ⟨ag12, ag13, ag14⟩ ⟨r6, r7, r8, r9, r10⟩ ⟨t1, t2, t3⟩ m
 refine vs (vs (v0 ?_))
 refine lT m (σ := (List aE) × (List aA) × Int) (τ := dD × dD) (fun g s => [(some k2, .obj 62 (aG p1)), (some p0K, .obj 30 ([nZ r6, aZ g.1, aZ g.2, aZ ag14, aZ gV])), (g.1.t, .obj 60 (fl aN (s.1 : List aE) g.1.sp)), (g.2.t, .obj 44 (fl aD (s.2.1 : List aA) g.2.sp)), (ag14.t, .obj 99 (fl aR (r9 : List aI) ag14.sp)), (gV.t, .obj 49 (fl aT ((p0.Vols.set p1.Vol.toNat ({ x5 with State := 2 })).set p1.Vol.toNat ({ ({ x5 with State := 2 } : aK) with Files := IntKind.wrap .i64 (x5.Files + 1) }) : List aK) gV.sp))]) (fun g s => bJ g.1 4 (s.1 : List aE).length ∧ bJ g.2 35 (s.2.1 : List aA).length) (fun g s => .c 0 (.ptr p0K 0) (.c 3 (.ptr k2 0) (.c 10 (vV gV.t (p1.Vol.toNat * 4 + 0)) (.c 12 (nZ s.2.2) .nil)))) (ag12, ag13) (⟨t1, t2⟩) (lx (.k4 .nil)) ?_ ?_
 rintro ⟨ag15, ag16⟩ ⟨q11, q12, q13⟩ x ⟨O11, O12⟩ m
 replace m : yN w p0 p1 x5 r6 r9 q11 q12 q13 = some x := m
 unfold yN at m
 refine vs (vs (v0 (vn (fun _ => aJ hX rfl rfl) (vl 0 _ kK rfl rfl rfl (dH oI rfl (v0 ?_))))))
 refine vi m (fun c12 m => ?_) fun c12 m => ?_
 refine v0 (vs (v0 (vs (v0 (vn (fun _ => aJ hX rfl rfl) (vl 0 _ kK rfl rfl rfl ?_))))))
 refine vx m s9 rfl rfl fun x9 _ m => ?_
 refine vn (fun _ => mM l4 rfl rfl) (va (nZ x9.Kind) cG rfl rfl ?_)
 refine pX m (σ := (List aE) × (List aA)) (τ := dD × dD) (fun g s => [(some k2, .obj 62 (aG p1)), (some p0K, .obj 30 ([nZ r6, aZ g.1, aZ g.2, aZ ag14, aZ gV])), (g.1.t, .obj 60 (fl aN (s.1 : List aE) g.1.sp)), (g.2.t, .obj 44 (fl aD (s.2 : List aA) g.2.sp)), (ag14.t, .obj 99 (fl aR (r9 : List aI) ag14.sp)), (gV.t, .obj 49 (fl aT ((p0.Vols.set p1.Vol.toNat ({ x5 with State := 2 })).set p1.Vol.toNat ({ ({ x5 with State := 2 } : aK) with Files := IntKind.wrap .i64 (x5.Files + 1) }) : List aK) gV.sp))]) (fun g s => bJ g.1 4 (s.1 : List aE).length ∧ bJ g.2 35 (s.2 : List aA).length) (fun g s => .c 0 (.ptr p0K 0) (.c 3 (.ptr k2 0) (.c 10 (vV gV.t (p1.Vol.toNat * 4 + 0)) (.c 12 (nZ q13) .nil)))) (fun x m => ?_) ?_
 refine v0 ?_
 refine vi m (fun c13 m => ?_) fun c13 m => ?_
 refine v0 (vn (fun _ => aJ hX rfl rfl) (vl 0 _ kK rfl rfl rfl ?_))
 refine vx m s9 rfl rfl fun x10 _ m => ?_
 refine vn (fun _ => mM xR rfl rfl) (va (nZ x10.Of) cG rfl rfl ?_)
 obtain ⟨y2, Y5, m⟩ := aC m
 refine ve fun u => dX ((bK u [1, 2, 3, 4, 5, 0] rfl rfl).1.trans (dM h [(some p0K, .obj 30 ([nZ r6, aZ ag15, aZ ag16, aZ ag14, aZ gV])), (ag15.t, .obj 60 (fl aN (q11 : List aE) ag15.sp)), (ag16.t, .obj 44 (fl aD (q12 : List aA) ag16.sp)), (ag14.t, .obj 99 (fl aR (r9 : List aI) ag14.sp)), (gV.t, .obj 49 (fl aT ((p0.Vols.set p1.Vol.toNat ({ x5 with State := 2 })).set p1.Vol.toNat ({ ({ x5 with State := 2 } : aK) with Files := IntKind.wrap .i64 (x5.Files + 1) }) : List aK) gV.sp))] [(some k2, .obj 62 (aG p1))]).symm) (cV (RZ (hp h [(some k2, .obj 62 (aG p1))]) O11 O12 t3 (bJ.set (bJ.set oV)) (dG [(some p0K, .obj 30 ([nZ r6, aZ ag15, aZ ag16, aZ ag14, aZ gV])), (ag15.t, .obj 60 (fl aN (q11 : List aE) ag15.sp)), (ag16.t, .obj 44 (fl aD (q12 : List aA) ag16.sp)), (ag14.t, .obj 99 (fl aR (r9 : List aI) ag14.sp)), (gV.t, .obj 49 (fl aT ((p0.Vols.set p1.Vol.toNat ({ x5 with State := 2 })).set p1.Vol.toNat ({ ({ x5 with State := 2 } : aK) with Files := IntKind.wrap .i64 (x5.Files + 1) }) : List aK) gV.sp))] [(some k2, .obj 62 (aG p1))] (bK u [1, 2, 3, 4, 5, 0] rfl rfl).2).2 Y5) rfl KU rfl ?_)
 rintro x h' ⟨ag17, O13, ag18, O14, K15, rfl, rfl⟩
 have K16 := bK (L' := [(some k2, .obj 62 (aG p1)), (some p0K, .obj 30 ([nZ r6, aZ ag17, aZ ag18, aZ ag14, aZ gV])), (ag17.t, .obj 60 (fl aN (y2.2.1 : List aE) ag17.sp)), (ag18.t, .obj 44 (fl aD (y2.2.2 : List aA) ag18.sp)), (ag14.t, .obj 99 (fl aR (r9 : List aI) ag14.sp)), (gV.t, .obj 49 (fl aT ((p0.Vols.set p1.Vol.toNat ({ x5 with State := 2 })).set p1.Vol.toNat ({ ({ x5 with State := 2 } : aK) with Files := IntKind.wrap .i64 (x5.Files + 1) }) : List aK) gV.sp))]) (eU (dG [(some p0K, .obj 30 ([nZ r6, aZ ag15, aZ ag16, aZ ag14, aZ gV])), (ag15.t, .obj 60 (fl aN (q11 : List aE) ag15.sp)), (ag16.t, .obj 44 (fl aD (q12 : List aA) ag16.sp)), (ag14.t, .obj 99 (fl aR (r9 : List aI) ag14.sp)), (gV.t, .obj 49 (fl aT ((p0.Vols.set p1.Vol.toNat ({ x5 with State := 2 })).set p1.Vol.toNat ({ ({ x5 with State := 2 } : aK) with Files := IntKind.wrap .i64 (x5.Files + 1) }) : List aK) gV.sp))] [(some k2, .obj 62 (aG p1))] (bK u [1, 2, 3, 4, 5, 0] rfl rfl).2).1 K15) [5, 0, 1, 2, 3, 4] rfl rfl
 refine qk K16.2 ((dM h [(some p0K, .obj 30 ([nZ r6, aZ ag17, aZ ag18, aZ ag14, aZ gV])), (ag17.t, .obj 60 (fl aN (y2.2.1 : List aE) ag17.sp)), (ag18.t, .obj 44 (fl aD (y2.2.2 : List aA) ag18.sp)), (ag14.t, .obj 99 (fl aR (r9 : List aI) ag14.sp)), (gV.t, .obj 49 (fl aT ((p0.Vols.set p1.Vol.toNat ({ x5 with State := 2 })).set p1.Vol.toNat ({ ({ x5 with State := 2 } : aK) with Files := IntKind.wrap .i64 (x5.Files + 1) }) : List aK) gV.sp))] [(some k2, .obj 62 (aG p1))]).trans K16.1) ?_
 exact fH m (ag17, ag18) ⟨O13, O14⟩ (lx (.k4 .nil))
 refine v0 ?_
 exact fH m (ag15, ag16) ⟨O11, O12⟩ (lx (.k4 .nil))
 rintro ⟨ag19, ag20⟩ ⟨j4, j5⟩ ⟨O15, O16⟩ m
 refine v0 ?_
 exact fH m (ag19, ag20) ⟨O15, O16⟩ (lx (.k4 .nil))
 refine v0 ?_
 exact lD m (ag15, ag16) ⟨O11, O12⟩ (lx (.k4 .nil))
 rintro ⟨ag21, ag22⟩ ⟨r11, r12, r13⟩ ⟨t4, t5⟩ m
 refine vs (v0 (vn (fun _ => i7 (bJ.ne (bJ.set (bJ.set oV)) (eN (x' := ({ ({ x5 with State := 2 } : aK) with Files := IntKind.wrap .i64 (x5.Files + 1) } : aK)) (eN (x' := ({ x5 with State := 2 } : aK)) X1))) rfl) (vn (fun _ => dJ (bJ.ne (bJ.set (bJ.set oV)) (eN (x' := ({ ({ x5 with State := 2 } : aK) with Files := IntKind.wrap .i64 (x5.Files + 1) } : aK)) (eN (x' := ({ x5 with State := 2 } : aK)) X1))) LY rfl rfl) (vn (fun u => eZ (fo := 0) (nZ (({ ({ x5 with State := 2 } : aK) with Files := IntKind.wrap .i64 (x5.Files + 1) } : aK).Pool)) (eN (x' := ({ ({ x5 with State := 2 } : aK) with Files := IntKind.wrap .i64 (x5.Files + 1) } : aK)) (eN (x' := ({ x5 with State := 2 } : aK)) X1)) eJ (bJ.set (bJ.set oV)) cG rfl (aO 5 u rfl) (fun _ => rfl)) ?_))))
 refine pX m (σ := (List aA)) (τ := dD) (fun g s => [(some k2, .obj 62 (aG p1)), (some p0K, .obj 30 ([nZ r6, aZ ag21, aZ g, aZ ag14, aZ gV])), (ag21.t, .obj 60 (fl aN (r11 : List aE) ag21.sp)), (g.t, .obj 44 (fl aD (s : List aA) g.sp)), (ag14.t, .obj 99 (fl aR (r9 : List aI) ag14.sp)), (gV.t, .obj 49 (fl aT ((p0.Vols.set p1.Vol.toNat ({ x5 with State := 2 })).set p1.Vol.toNat ({ ({ x5 with State := 2 } : aK) with Files := IntKind.wrap .i64 (x5.Files + 1) }) : List aK) gV.sp))]) (fun g s => bJ g 35 (s : List aA).length) (fun g s => .nil) (fun x m => ?_) ?_
 refine v0 ?_
 refine vi m (fun c14 m => ?_) fun c14 m => ?_
 refine vs (v0 ?_)
 refine lT m (σ := (List aA) × Int) (τ := dD) (fun g s => [(some k2, .obj 62 (aG p1)), (some p0K, .obj 30 ([nZ r6, aZ ag21, aZ g, aZ ag14, aZ gV])), (ag21.t, .obj 60 (fl aN (r11 : List aE) ag21.sp)), (g.t, .obj 44 (fl aD (s.1 : List aA) g.sp)), (ag14.t, .obj 99 (fl aR (r9 : List aI) ag14.sp)), (gV.t, .obj 49 (fl aT ((p0.Vols.set p1.Vol.toNat ({ x5 with State := 2 })).set p1.Vol.toNat ({ ({ x5 with State := 2 } : aK) with Files := IntKind.wrap .i64 (x5.Files + 1) }) : List aK) gV.sp))]) (fun g s => bJ g 35 (s.1 : List aA).length) (fun g s => .c 0 (.ptr p0K 0) (.c 3 (.ptr k2 0) (.c 13 (nZ s.2) .nil))) ag22 t5 (lx (.k3 .nil)) ?_ ?_
 rintro ag23 ⟨q14, q15⟩ x O17 m
 replace m : rX w p0 p1 x5 r6 r9 r11 q14 q15 = some x := m
 unfold rX at m
 refine vs (vs (v0 (vn (fun _ => aJ hX rfl rfl) (vl 0 _ kK rfl rfl rfl (dH oI rfl (v0 ?_))))))
 refine vi m (fun c15 m => ?_) fun c15 m => ?_
 refine v0 (vs (v0 (vs (v0 (vn (fun _ => aJ hX rfl rfl) (vl 0 _ kK rfl rfl rfl ?_))))))
 refine vx m s9 rfl rfl fun x11 _ m => ?_
 refine vn (fun _ => mM l4 rfl rfl) (va (nZ x11.Kind) cG rfl rfl ?_)
 refine pX m (σ := (List aA)) (τ := dD) (fun g s => [(some k2, .obj 62 (aG p1)), (some p0K, .obj 30 ([nZ r6, aZ ag21, aZ g, aZ ag14, aZ gV])), (ag21.t, .obj 60 (fl aN (r11 : List aE) ag21.sp)), (g.t, .obj 44 (fl aD (s : List aA) g.sp)), (ag14.t, .obj 99 (fl aR (r9 : List aI) ag14.sp)), (gV.t, .obj 49 (fl aT ((p0.Vols.set p1.Vol.toNat ({ x5 with State := 2 })).set p1.Vol.toNat ({ ({ x5 with State := 2 } : aK) with Files := IntKind.wrap .i64 (x5.Files + 1) }) : List aK) gV.sp))]) (fun g s => bJ g 35 (s : List aA).length) (fun g s => .c 0 (.ptr p0K 0) (.c 3 (.ptr k2 0) (.c 13 (nZ q15) .nil))) (fun x m => ?_) ?_
 refine v0 ?_
 refine vi m (fun c16 m => ?_) fun c16 m => ?_
 refine vs (v0 (AK (by kernel_rfl) (vn (fun _ => bU rfl) (vl 1 (.agg ([nZ r6, aZ ag21, aZ ag23, aZ ag14, aZ gV])) eK rfl rfl rfl (vn (fun _ => aJ hX rfl rfl) (vl 0 _ kK rfl rfl rfl ?_))))))
 refine vx m s9 rfl rfl fun x12 _ m => ?_
 refine vn (fun _ => mM xQ rfl rfl) (va (.agg (bF x12.Id)) fV rfl rfl ?_)
 obtain ⟨_, Y6, m⟩ := aC m
 refine vn (fun u => cE (f8 (.cons (Br.agg (.cons (Br.refl _ _) (.cons (Br.aw 2 e8 t4 u rfl) (.cons (Br.aw 3 cM O17 u rfl) (.cons (Br.aw 4 fB t3 u rfl) (.cons (Br.aw 5 eJ (bJ.set (bJ.set oV)) u rfl) .nil)))))) (.cons (Br.refl _ _) .nil)) rfl (S2 _ Y6)) rfl JF rfl) (vs (v0 ?_))
 refine pX m (σ := (List aA)) (τ := dD) (fun g s => [(some k2, .obj 62 (aG p1)), (some p0K, .obj 30 ([nZ r6, aZ ag21, aZ g, aZ ag14, aZ gV])), (ag21.t, .obj 60 (fl aN (r11 : List aE) ag21.sp)), (g.t, .obj 44 (fl aD (s : List aA) g.sp)), (ag14.t, .obj 99 (fl aR (r9 : List aI) ag14.sp)), (gV.t, .obj 49 (fl aT ((p0.Vols.set p1.Vol.toNat ({ x5 with State := 2 })).set p1.Vol.toNat ({ ({ x5 with State := 2 } : aK) with Files := IntKind.wrap .i64 (x5.Files + 1) }) : List aK) gV.sp))]) (fun g s => bJ g 35 (s : List aA).length) (fun g s => .c 0 (.ptr p0K 0) (.c 3 (.ptr k2 0) (.c 13 (nZ q15) .nil))) (fun x m => ?_) ?_
 refine v0 ?_
 refine vi m (fun c17 m => ?_) fun c17 m => ?_
 refine v0 ?_
 refine vz [(1000000, some p0K, .obj 30 ([nZ r6, aZ ag21, aZ ag23, aZ ag14, aZ gV]))] mixed (fun u => ⟨fun _ => aO 1 u rfl, trivial⟩) fun u => ?_
 refine aM 0 rfl (fun _ _ _ _ => bN (.ptr _ _) rfl) ?_
 refine aM 1 rfl (fun _ _ _ _ => bU rfl) ?_
 refine aM 2 rfl (fun _ _ _ _ => aJ eL rfl rfl) ?_
 refine aM 3 rfl (fun _ _ hi hB => bH (aZ ag23) eF rfl (At.s (bR.get 0 hi rfl (hB 1000000 (by kernel_rfl)))) rfl) ?_
 refine aM 4 rfl (fun _ _ _ _ => bN (.sc (.int _ _)) rfl) ?_
 refine aM 5 rfl (fun _ _ _ _ => bN (.ptr _ _) rfl) ?_
 refine aM 6 rfl (fun _ _ _ _ => bU rfl) ?_
 refine aM 7 rfl (fun _ _ _ _ => aJ eL rfl rfl) ?_
 refine aM 8 rfl (fun _ _ hi hB => bH (aZ ag23) eF rfl (At.s (bR.get 0 hi rfl (hB 1000000 (by kernel_rfl)))) rfl) ?_
 refine aM 9 rfl (fun _ _ _ _ => bN (.sc (.int _ _)) rfl) ?_
 obtain ⟨x13, X5, m⟩ := aC m
 refine aM 10 rfl (fun _ _ _ _ => dE X5 eW O17 rfl rfl) ?_
 refine aM 11 rfl (fun _ _ _ _ => dJ (bJ.ne O17 X5) qH rfl rfl) ?_
 refine eX 12 rfl (by kernel_rfl) (cR (fo := 32) ({ x13 with Staged := false } : aA) 3 u X5 cM O17 rfl rfl rfl rfl (cO.refl _ _) SZ rfl rfl fun K17 => ⟨⟨fun _ => aO 1 K17 rfl, trivial⟩, ?_⟩)
 obtain ⟨x14, X6, m⟩ := aC m
 refine aM 13 rfl (fun _ _ _ _ => dE X6 eW (bJ.set O17) rfl rfl) ?_
 refine aM 14 rfl (fun _ _ _ _ => dJ (bJ.ne (bJ.set O17) X6) iU rfl rfl) ?_
 refine eX 15 rfl (by kernel_rfl) (cR (fo := 33) ({ x14 with Data := ([] : List Int) } : aA) 3 K17 X6 cM (bJ.set O17) rfl rfl rfl rfl (.cons (aS _) .nil) CB rfl rfl fun K18 => ⟨⟨fun _ => aO 1 K18 rfl, trivial⟩, ?_⟩)
 refine dL (by kernel_rfl) (qk (f := .c 287 _ (.c 286 _ (.c 285 _ (.c 284 _ (.c 283 _ (.c 282 _ (.c 281 _ (.c 280 _ (.c 279 _ (.c 278 _ (.c 277 _ (.c 276 _ (.c 275 _ (.c 274 _ _)))))))))))))) K18 rfl ?_)
 exact fH m ag23 (bJ.set (bJ.set O17)) (lx (.k3 .nil))
 refine v0 ?_
 exact fH m ag23 O17 (lx (.k3 .nil))
 rintro ag24 j6 O18 m
 exact fH m ag24 O18 (lx (.k3 .nil))
 refine v0 ?_
 exact fH m ag23 O17 (lx (.k3 .nil))
 rintro ag25 j7 O19 m
 refine v0 ?_
 exact fH m ag25 O19 (lx (.k3 .nil))
 refine v0 ?_
 exact lD m ag23 O17 (lx (.k3 .nil))
 rintro ag26 ⟨r14, r15⟩ t6 m
 exact fH m ag26 t6 (lx .nil)
 refine v0 ?_
 exact fH m ag22 t5 (lx .nil)
 rintro ag27 j8 O20 m
 exact fH m (ag21, ag27, ag14, gV) ⟨t4, O20, t3, (bJ.set (bJ.set oV))⟩ (lx .nil)
 refine vs (v0 ?_)
 refine pX m (σ := (List aE) × (List aA) × (List aI) × (List aK)) (τ := dD × dD × dD × dD) (fun g s => [(some k2, .obj 62 (aG p1)), (some p0K, .obj 30 ([nZ p0.Seq, aZ g.1, aZ g.2.1, aZ g.2.2.1, aZ g.2.2.2])), (g.1.t, .obj 60 (fl aN (s.1 : List aE) g.1.sp)), (g.2.1.t, .obj 44 (fl aD (s.2.1 : List aA) g.2.1.sp)), (g.2.2.1.t, .obj 99 (fl aR (s.2.2.1 : List aI) g.2.2.1.sp)), (g.2.2.2.t, .obj 49 (fl aT (s.2.2.2 : List aK) g.2.2.2.sp))]) (fun g s => bJ g.1 4 (s.1 : List aE).length ∧ bJ g.2.1 35 (s.2.1 : List aA).length ∧ bJ g.2.2.1 3 (s.2.2.1 : List aI).length ∧ bJ g.2.2.2 4 (s.2.2.2 : List aK).length) (fun g s => .nil) (fun x m => ?_) ?_
 refine v0 ?_
 refine vi m (fun c18 m => ?_) fun c18 m => ?_
 refine vs (vs (v0 (vn (fun _ => aJ fJ rfl rfl) (vl 0 _ cG rfl rfl rfl ?_))))
 obtain ⟨_, Y7, m⟩ := aC m
 refine ve fun u => dX ((bK u [1, 2, 3, 4, 5, 0] rfl rfl).1.trans (dM h [(some p0K, .obj 30 ([nZ p0.Seq, aZ gS, aZ gC, aZ gE, aZ gV])), (gS.t, .obj 60 (fl aN (p0.Snaps : List aE) gS.sp)), (gC.t, .obj 44 (fl aD (p0.Chunks : List aA) gC.sp)), (gE.t, .obj 99 (fl aR (p0.Exps : List aI) gE.sp)), (gV.t, .obj 49 (fl aT (p0.Vols : List aK) gV.sp))] [(some k2, .obj 62 (aG p1))]).symm) (cV (NR (hp h [(some k2, .obj 62 (aG p1))]) ok_Snaps oC oE oV (dG [(some p0K, .obj 30 ([nZ p0.Seq, aZ gS, aZ gC, aZ gE, aZ gV])), (gS.t, .obj 60 (fl aN (p0.Snaps : List aE) gS.sp)), (gC.t, .obj 44 (fl aD (p0.Chunks : List aA) gC.sp)), (gE.t, .obj 99 (fl aR (p0.Exps : List aI) gE.sp)), (gV.t, .obj 49 (fl aT (p0.Vols : List aK) gV.sp))] [(some k2, .obj 62 (aG p1))] (bK u [1, 2, 3, 4, 5, 0] rfl rfl).2).2 Y7) rfl HS rfl ?_)
 rintro x h' ⟨K19, rfl, rfl⟩
 have K20 := bK (L' := [(some k2, .obj 62 (aG p1)), (some p0K, .obj 30 ([nZ p0.Seq, aZ gS, aZ gC, aZ gE, aZ gV])), (gS.t, .obj 60 (fl aN (p0.Snaps : List aE) gS.sp)), (gC.t, .obj 44 (fl aD (p0.Chunks : List aA) gC.sp)), (gE.t, .obj 99 (fl aR (p0.Exps : List aI) gE.sp)), (gV.t, .obj 49 (fl aT (p0.Vols : List aK) gV.sp))]) (eU (dG [(some p0K, .obj 30 ([nZ p0.Seq, aZ gS, aZ gC, aZ gE, aZ gV])), (gS.t, .obj 60 (fl aN (p0.Snaps : List aE) gS.sp)), (gC.t, .obj 44 (fl aD (p0.Chunks : List aA) gC.sp)), (gE.t, .obj 99 (fl aR (p0.Exps : List aI) gE.sp)), (gV.t, .obj 49 (fl aT (p0.Vols : List aK) gV.sp))] [(some k2, .obj 62 (aG p1))] (bK u [1, 2, 3, 4, 5, 0] rfl rfl).2).1 K19) [5, 0, 1, 2, 3, 4] rfl rfl
 refine qk K20.2 ((dM h [(some p0K, .obj 30 ([nZ p0.Seq, aZ gS, aZ gC, aZ gE, aZ gV])), (gS.t, .obj 60 (fl aN (p0.Snaps : List aE) gS.sp)), (gC.t, .obj 44 (fl aD (p0.Chunks : List aA) gC.sp)), (gE.t, .obj 99 (fl aR (p0.Exps : List aI) gE.sp)), (gV.t, .obj 49 (fl aT (p0.Vols : List aK) gV.sp))] [(some k2, .obj 62 (aG p1))]).trans K20.1) ?_
 refine v0 ?_
 refine vi m (fun c19 m => ?_) fun c19 m => ?_
 refine vs (v0 (v0 ?_))
 refine gA m fun m => ?_
 refine gA m fun m => ?_
 refine gA m fun m => ?_
 refine gA m fun m => ?_
 cases m
 exact vr fun u => dY.of1 (.inl rfl) (fL _ _ (.sc (.int _ _)) rfl) (bO u [1, 2, 3, 4, 5] rfl).2 (aX.refl _ _) ⟨gS, ok_Snaps, gC, oC, gE, oE, gV, oV, (bO u [1, 2, 3, 4, 5] rfl).1, rfl, rfl⟩
 refine v0 (vs (v0 ?_))
 refine vz [(1000000, some p0K, .obj 30 ([nZ p0.Seq, aZ gS, aZ gC, aZ gE, aZ gV])), (1000000, some k2, .obj 62 (aG p1))] mixed (fun u => ⟨fun _ => aO 1 u rfl, fun _ => aO 0 u rfl, trivial⟩) fun u => ?_
 refine aM 0 rfl (fun _ _ _ _ => bN (.ptr _ _) rfl) ?_
 refine aM 1 rfl (fun _ _ _ _ => bU rfl) ?_
 refine aM 2 rfl (fun _ _ _ _ => aJ fI rfl rfl) ?_
 refine aM 3 rfl (fun _ _ hi hB => bH (aZ gV) fZ rfl (At.s (bR.get 0 hi rfl (hB 1000000 (by kernel_rfl)))) rfl) ?_
 refine aM 4 rfl (fun _ _ _ _ => aJ fJ rfl rfl) ?_
 refine aM 5 rfl (fun _ _ hi hB => bH (nZ p1.Vol) cG rfl (At.s (bR.get 1 hi rfl (hB 1000000 (by kernel_rfl)))) rfl) ?_
 refine aM 6 rfl (fun _ _ _ _ => bN (.ptr _ _) rfl) ?_
 refine aM 7 rfl (fun _ _ _ _ => bU rfl) ?_
 refine aM 8 rfl (fun _ _ _ _ => aJ fI rfl rfl) ?_
 refine aM 9 rfl (fun _ _ hi hB => bH (aZ gV) fZ rfl (At.s (bR.get 0 hi rfl (hB 1000000 (by kernel_rfl)))) rfl) ?_
 refine aM 10 rfl (fun _ _ _ _ => aJ fJ rfl rfl) ?_
 refine aM 11 rfl (fun _ _ hi hB => bH (nZ p1.Vol) cG rfl (At.s (bR.get 1 hi rfl (hB 1000000 (by kernel_rfl)))) rfl) ?_
 obtain ⟨x15, X7, m⟩ := aC m
 refine aM 12 rfl (fun _ _ _ _ => dE X7 i9 oV rfl rfl) ?_
 refine aM 13 rfl (fun _ _ _ _ => dJ (bJ.ne oV X7) l8 rfl rfl) ?_
 refine eX 14 rfl (by kernel_rfl) (cR (fo := 2) ({ x15 with State := 3 } : aK) 5 u X7 eJ oV rfl rfl rfl rfl (cO.refl _ _) xN rfl rfl fun K21 => ⟨⟨fun _ => aO 1 K21 rfl, fun _ => aO 0 K21 rfl, trivial⟩, ?_⟩)
 obtain ⟨x16, X8, m⟩ := aC m
 refine aM 15 rfl (fun _ _ _ _ => dE X8 i9 (bJ.set oV) rfl rfl) ?_
 refine aM 16 rfl (fun _ _ _ _ => dJ (bJ.ne (bJ.set oV) X8) tA rfl rfl) ?_
 refine eX 17 rfl (by kernel_rfl) (cR (fo := 3) ({ x16 with Files := 0 } : aK) 5 K21 X8 eJ (bJ.set oV) rfl rfl rfl rfl (cO.refl _ _) xN rfl rfl fun K22 => ⟨⟨fun _ => aO 1 K22 rfl, fun _ => aO 0 K22 rfl, trivial⟩, ?_⟩)
 refine dL (by kernel_rfl) (qk (f := .c 310 _ (.c 309 _ (.c 308 _ (.c 307 _ (.c 306 _ (.c 305 _ (.c 304 _ (.c 303 _ (.c 302 _ (.c 301 _ (.c 300 _ (.c 299 _ (.c 298 _ (.c 297 _ (.c 296 _ (.c 295 _ _)))))))))))))))) K22 rfl ?_)
 refine vs (v0 (vs (vs (v0 (oO (B4 (.obj 44 (fl aD ([] : List aA) g0.sp)) 15 (aZ g0) (fP _)) ?_)))))
 refine lT m (σ := (List aA) × Int) (τ := dD) (fun g s => [(g.t, .obj 44 (fl aD (s.1 : List aA) g.sp)), (some k2, .obj 62 (aG p1)), (some p0K, .obj 30 ([nZ p0.Seq, aZ gS, aZ gC, aZ gE, aZ gV])), (gS.t, .obj 60 (fl aN (p0.Snaps : List aE) gS.sp)), (gC.t, .obj 44 (fl aD (p0.Chunks : List aA) gC.sp)), (gE.t, .obj 99 (fl aR (p0.Exps : List aI) gE.sp)), (gV.t, .obj 49 (fl aT ((p0.Vols.set p1.Vol.toNat ({ x15 with State := 3 })).set p1.Vol.toNat ({ x16 with Files := 0 }) : List aK) gV.sp))]) (fun g s => bJ g 35 (s.1 : List aA).length) (fun g s => .c 0 (.ptr p0K 0) (.c 3 (.ptr k2 0) (.c 15 (aZ g) (.c 16 (nZ s.2) .nil)))) g0 (bJ.g0 35) (lx (.k4 .nil)) ?_ ?_
 rintro ag28 ⟨q16, q17⟩ x O21 m
 replace m : rY w p0 p1 q16 q17 = some x := m
 unfold rY at m
 refine vs (vs (v0 (vn (fun _ => bU rfl) (vn (fun _ => aJ eL rfl rfl) (vl 2 (aZ gC) eF rfl rfl rfl (vn (fun _ => eY hS oC rfl) (v0 ?_)))))))
 refine vi m (fun c20 m => ?_) fun c20 m => ?_
 refine v0 (vs (v0 (vs (v0 (vn (fun _ => bU rfl) (vn (fun _ => aJ eL rfl rfl) (vl 2 (aZ gC) eF rfl rfl rfl ?_)))))))
 obtain ⟨x17, X9, m⟩ := aC m
 refine vn (fun _ => dE X9 eW oC rfl rfl) (vn (fun u => eZ (fo := 0) (.agg (aD x17)) X9 cM oC lF rfl (aO 4 u rfl) (fun _ => rfl)) ?_)
 refine ve fun u => bE (bF iY ++ ([.sc (.bool false), sZ, sZ] : List AV)) u l6 rfl rfl fun k15855 K23 => qk K23 rfl ?_
 refine ve fun u => aL 0 (aD x17) u rfl rfl rfl rfl uV rfl rfl fun K24 => qk K24 rfl ?_
 refine vs (v0 (vn (fun _ => aJ iL rfl rfl) (vl 0 _ fE rfl rfl rfl (vn (fun _ => aJ fJ rfl rfl) (vl 2 _ cG rfl rfl rfl ?_)))))
 refine vk NQ HR m rfl rfl fun y3 m => ?_
 refine vn (fun _ => aJ iL rfl rfl) ?_
 refine ve fun u => aL 0 (aD { x17 with Locs := y3 }) u rfl rfl rfl rfl m8 rfl rfl fun K25 => qk K25 rfl ?_
 refine vs ?_
 refine cW m (σ := Bool) (τ := Unit) (fun g s => [(some k15855, .obj 44 (aD { x17 with Locs := y3 })), (ag28.t, .obj 44 (fl aD (q16 : List aA) ag28.sp)), (some k2, .obj 62 (aG p1)), (some p0K, .obj 30 ([nZ p0.Seq, aZ gS, aZ gC, aZ gE, aZ gV])), (gS.t, .obj 60 (fl aN (p0.Snaps : List aE) gS.sp)), (gC.t, .obj 44 (fl aD (p0.Chunks : List aA) gC.sp)), (gE.t, .obj 99 (fl aR (p0.Exps : List aI) gE.sp)), (gV.t, .obj 49 (fl aT ((p0.Vols.set p1.Vol.toNat ({ x15 with State := 3 })).set p1.Vol.toNat ({ x16 with Files := 0 }) : List aK) gV.sp))]) (fun g s => .c 0 (.ptr p0K 0) (.c 3 (.ptr k2 0) (.c 15 (aZ ag28) (.c 16 (nZ q17) (.c 17 (.ptr k15855 0) (.c 340 (.sc (.bool s)) .nil)))))) (fun x m => ?_) ?_
 refine v0 (vn (fun _ => aJ qH rfl rfl) (vl 0 _ BG rfl rfl rfl ?_))
 refine vi m (fun b7 m => ?_) fun b7 m => ?_
 rw [b7]
 exact bD m (lx (.k6 .nil))
 rw [b7]
 refine vn (fun _ => aJ iL rfl rfl) (vl 0 _ fE rfl rfl rfl (dH iF rfl ?_))
 exact bD m (lx (.k6 .nil))
 rintro _ j9 m
 refine pX m (σ := (List aA)) (τ := dD) (fun g s => [(some k15855, .obj 44 (aD { x17 with Locs := y3 })), (g.t, .obj 44 (fl aD (s : List aA) g.sp)), (some k2, .obj 62 (aG p1)), (some p0K, .obj 30 ([nZ p0.Seq, aZ gS, aZ gC, aZ gE, aZ gV])), (gS.t, .obj 60 (fl aN (p0.Snaps : List aE) gS.sp)), (gC.t, .obj 44 (fl aD (p0.Chunks : List aA) gC.sp)), (gE.t, .obj 99 (fl aR (p0.Exps : List aI) gE.sp)), (gV.t, .obj 49 (fl aT ((p0.Vols.set p1.Vol.toNat ({ x15 with State := 3 })).set p1.Vol.toNat ({ x16 with Files := 0 }) : List aK) gV.sp))]) (fun g s => bJ g 35 (s : List aA).length) (fun g s => .c 0 (.ptr p0K 0) (.c 3 (.ptr k2 0) (.c 15 (aZ g) (.c 16 (nZ q17) .nil)))) (fun x m => ?_) ?_
 refine v0 ?_
 refine vi m (fun c21 m => ?_) fun c21 m => ?_
 refine v0 (vl 0 (.agg (aD { x17 with Locs := y3 })) lF rfl rfl rfl (vn (fun _ => eH (List.map aD ([{ x17 with Locs := y3 }] : List aA)) jP rfl rfl rfl rfl) ?_))
 obtain ⟨z1, Z1, m⟩ := aC m
 refine ve fun u => fR (c := aD) 1 Z1 jP rfl l6 rfl cM rfl rfl O21 u rfl fun ag29 O22 K26 => qk K26 rfl ?_
 exact fH m ag29 O22 (lx (.k4 .nil))
 refine v0 ?_
 exact fH m ag28 O21 (lx (.k4 .nil))
 rintro ag30 j10 O23 m
 refine v0 ?_
 exact fH m ag30 O23 (kR [1, 2, 3, 4, 5, 6, 7] rfl rfl (.k4 .nil))
 refine v0 ?_
 exact lD m ag28 O21 (lx (.k4 .nil))
 rintro ag31 ⟨r16, r17⟩ t7 m
 refine vs (v0 (vn (fun _ => bU rfl) (vn (fun _ => aJ eL rfl rfl) ?_)))
 refine ve fun u => aL 2 ([nZ p0.Seq, aZ gS, aZ ag31, aZ gE, aZ gV]) u rfl rfl (cI rfl) (cK (bX _ _ _) rfl) xO rfl rfl fun K27 => qk K27 rfl ?_
 refine vs (vs (v0 ?_))
 refine lT m (σ := (List aE) × Int) (τ := dD) (fun g s => [(ag31.t, .obj 44 (fl aD (r16 : List aA) ag31.sp)), (some k2, .obj 62 (aG p1)), (some p0K, .obj 30 ([nZ p0.Seq, aZ g, aZ ag31, aZ gE, aZ gV])), (g.t, .obj 60 (fl aN (s.1 : List aE) g.sp)), (gC.t, .obj 44 (fl aD (p0.Chunks : List aA) gC.sp)), (gE.t, .obj 99 (fl aR (p0.Exps : List aI) gE.sp)), (gV.t, .obj 49 (fl aT ((p0.Vols.set p1.Vol.toNat ({ x15 with State := 3 })).set p1.Vol.toNat ({ x16 with Files := 0 }) : List aK) gV.sp))]) (fun g s => bJ g 4 (s.1 : List aE).length) (fun g s => .c 0 (.ptr p0K 0) (.c 3 (.ptr k2 0) (.c 18 (nZ s.2) .nil))) gS ok_Snaps (lx (.k3 .nil)) ?_ ?_
 rintro ag32 ⟨q18, q19⟩ x O24 m
 replace m : rZ w p1 q18 q19 = some x := m
 unfold rZ at m
 refine vs (vs (v0 (vn (fun _ => bU rfl) (vn (fun _ => aJ eP rfl rfl) (vl 2 (aZ ag32) fK rfl rfl rfl (vn (fun _ => eY kH O24 rfl) (v0 ?_)))))))
 refine vi m (fun c22 m => ?_) fun c22 m => ?_
 refine v0 (vs (v0 (v0 ?_)))
 refine vz [(1000000, some p0K, .obj 30 ([nZ p0.Seq, aZ ag32, aZ ag31, aZ gE, aZ gV])), (18, ag32.t, .obj 60 (fl aN (q18 : List aE) ag32.sp)), (1000000, some k2, .obj 62 (aG p1))] mixed (fun u => ⟨fun _ => aO 2 u rfl, fun _ => aO 3 u rfl, fun _ => aO 1 u rfl, trivial⟩) fun u => ?_
 refine aM 0 rfl (fun _ _ _ _ => bN (.ptr _ _) rfl) ?_
 refine aM 1 rfl (fun _ _ _ _ => bU rfl) ?_
 refine aM 2 rfl (fun _ _ _ _ => aJ eP rfl rfl) ?_
 refine aM 3 rfl (fun _ _ hi hB => bH (aZ ag32) fK rfl (At.s (bR.get 0 hi rfl (hB 1000000 (by kernel_rfl)))) rfl) ?_
 refine aM 4 rfl (fun _ _ _ _ => bN (.sc (.int _ _)) rfl) ?_
 refine aM 5 rfl (fun _ _ _ _ => bN (.ptr _ _) rfl) ?_
 refine aM 6 rfl (fun _ _ _ _ => bU rfl) ?_
 refine aM 7 rfl (fun _ _ _ _ => aJ eP rfl rfl) ?_
 refine aM 8 rfl (fun _ _ hi hB => bH (aZ ag32) fK rfl (At.s (bR.get 0 hi rfl (hB 1000000 (by kernel_rfl)))) rfl) ?_
 refine aM 9 rfl (fun _ _ _ _ => bN (.sc (.int _ _)) rfl) ?_
 obtain ⟨x18, X10, m⟩ := aC m
 refine aM 10 rfl (fun _ _ _ _ => dE X10 kJ O24 rfl rfl) ?_
 refine aM 11 rfl (fun _ _ _ _ => dJ (bJ.ne O24 X10) iV rfl rfl) ?_
 refine aM 12 rfl (fun _ _ hi hB => eZ (fo := 3) (.sl none 4 (List.map aQ x18.Locs)) X10 e8 O24 fE rfl (bR.get 1 hi rfl (hB 18 (by kernel_rfl))) (fun _ => rfl)) ?_
 refine aM 13 rfl (fun _ _ _ _ => aJ fJ rfl rfl) ?_
 refine aM 14 rfl (fun _ _ hi hB => bH (nZ p1.Vol) cG rfl (At.s (bR.get 2 hi rfl (hB 1000000 (by kernel_rfl)))) rfl) ?_
 obtain ⟨y4, Y8, m⟩ := aC m
 refine aM 15 rfl (fun _ _ _ _ => cE (NQ _ Y8) rfl HR rfl) ?_
 obtain ⟨x19, X11, m⟩ := aC m
 refine aM 16 rfl (fun _ _ _ _ => dE X11 kJ O24 rfl rfl) ?_
 refine aM 17 rfl (fun _ _ _ _ => dJ (bJ.ne O24 X11) iV rfl rfl) ?_
 refine eX 18 rfl (by kernel_rfl) (cR (fo := 3) ({ x19 with Locs := y4 } : aE) 3 u X11 e8 O24 rfl rfl rfl rfl (cO.refl _ _) m8 rfl rfl fun K28 => ⟨⟨fun _ => aO 2 K28 rfl, fun e => absurd e (by decide), fun _ => aO 1 K28 rfl, trivial⟩, ?_⟩)
 refine dL (by kernel_rfl) (qk (f := .c 375 _ (.c 374 _ (.c 373 _ (.c 372 _ (.c 371 _ (.c 370 _ (.c 369 _ (.c 368 _ (.c 367 _ (.c 366 _ (.c 365 _ (.c 364 _ (.c 363 _ (.c 362 _ (.c 361 _ (.c 360 _ (.c 359 _ (.c 358 _ _)))))))))))))))))) K28 rfl ?_)
 refine v0 ?_
 exact fH m ag32 (bJ.set O24) (lx (.k3 .nil))
 refine v0 ?_
 exact lD m ag32 O24 (lx (.k3 .nil))
 rintro ag33 ⟨r18, r19⟩ t8 m
 refine vs (v0 (vs (vs (v0 (oO (B4 (.obj 99 (fl aR ([] : List aI) g0.sp)) 19 (aZ g0) (fP _)) ?_)))))
 refine lT m (σ := (List aI) × Int) (τ := dD) (fun g s => [(g.t, .obj 99 (fl aR (s.1 : List aI) g.sp)), (ag31.t, .obj 44 (fl aD (r16 : List aA) ag31.sp)), (some k2, .obj 62 (aG p1)), (some p0K, .obj 30 ([nZ p0.Seq, aZ ag33, aZ ag31, aZ gE, aZ gV])), (ag33.t, .obj 60 (fl aN (r18 : List aE) ag33.sp)), (gC.t, .obj 44 (fl aD (p0.Chunks : List aA) gC.sp)), (gE.t, .obj 99 (fl aR (p0.Exps : List aI) gE.sp)), (gV.t, .obj 49 (fl aT ((p0.Vols.set p1.Vol.toNat ({ x15 with State := 3 })).set p1.Vol.toNat ({ x16 with Files := 0 }) : List aK) gV.sp))]) (fun g s => bJ g 3 (s.1 : List aI).length) (fun g s => .c 0 (.ptr p0K 0) (.c 3 (.ptr k2 0) (.c 19 (aZ g) (.c 20 (nZ s.2) .nil)))) g0 (bJ.g0 3) (lx (.k4 .nil)) ?_ ?_
 rintro ag34 ⟨q20, q21⟩ x O25 m
 replace m : sA w p0 p1 q20 q21 = some x := m
 unfold sA at m
 refine vs (vs (v0 (vn (fun _ => bU rfl) (vn (fun _ => aJ fC rfl rfl) (vl 3 (aZ gE) iK rfl rfl rfl (vn (fun _ => eY o7 oE rfl) (v0 ?_)))))))
 refine vi m (fun c23 m => ?_) fun c23 m => ?_
 refine v0 (vs (v0 (vs (v0 (vn (fun _ => bU rfl) (vn (fun _ => aJ fC rfl rfl) (vl 3 (aZ gE) iK rfl rfl rfl ?_)))))))
 obtain ⟨x20, X12, m⟩ := aC m
 refine vn (fun _ => dE X12 jQ oE rfl rfl) (vn (fun u => eZ (fo := 0) (.agg (aR x20)) X12 fB oE tD rfl (aO 6 u rfl) (fun _ => rfl)) ?_)
 refine ve fun u => bE ([nZ 0, nZ 0, sZ]) u qJ rfl rfl fun k16100 K29 => qk K29 rfl ?_
 refine ve fun u => aL 0 (aR x20) u rfl rfl rfl rfl CD rfl rfl fun K30 => qk K30 rfl ?_
 refine vs (v0 (vn (fun _ => aJ kM rfl rfl) (vl 0 _ fE rfl rfl rfl (vn (fun _ => aJ fJ rfl rfl) (vl 3 _ cG rfl rfl rfl ?_)))))
 refine vk NQ HR m rfl rfl fun y5 m => ?_
 refine vn (fun _ => aJ kM rfl rfl) ?_
 refine ve fun u => aL 0 (aR { x20 with Locs := y5 }) u rfl rfl rfl rfl m8 rfl rfl fun K31 => qk K31 rfl ?_
 refine vs (v0 (vn (fun _ => aJ kM rfl rfl) (vl 0 _ fE rfl rfl rfl (dH iF rfl ?_))))
 refine pX m (σ := (List aI)) (τ := dD) (fun g s => [(some k16100, .obj 99 (aR { x20 with Locs := y5 })), (g.t, .obj 99 (fl aR (s : List aI) g.sp)), (ag31.t, .obj 44 (fl aD (r16 : List aA) ag31.sp)), (some k2, .obj 62 (aG p1)), (some p0K, .obj 30 ([nZ p0.Seq, aZ ag33, aZ ag31, aZ gE, aZ gV])), (ag33.t, .obj 60 (fl aN (r18 : List aE) ag33.sp)), (gC.t, .obj 44 (fl aD (p0.Chunks : List aA) gC.sp)), (gE.t, .obj 99 (fl aR (p0.Exps : List aI) gE.sp)), (gV.t, .obj 49 (fl aT ((p0.Vols.set p1.Vol.toNat ({ x15 with State := 3 })).set p1.Vol.toNat ({ x16 with Files := 0 }) : List aK) gV.sp))]) (fun g s => bJ g 3 (s : List aI).length) (fun g s => .c 0 (.ptr p0K 0) (.c 3 (.ptr k2 0) (.c 19 (aZ g) (.c 20 (nZ q21) .nil)))) (fun x m => ?_) ?_
 refine v0 ?_
 refine vi m (fun c24 m => ?_) fun c24 m => ?_
 refine v0 (vl 0 (.agg (aR { x20 with Locs := y5 })) tD rfl rfl rfl (vn (fun _ => eH (List.map aR ([{ x20 with Locs := y5 }] : List aI)) uT rfl rfl rfl rfl) ?_))
 obtain ⟨z2, Z2, m⟩ := aC m
 refine ve fun u => fR (c := aR) 1 Z2 uT rfl qJ rfl fB rfl rfl O25 u rfl fun ag35 O26 K32 => qk K32 rfl ?_
 exact fH m ag35 O26 (lx (.k4 .nil))
 refine v0 ?_
 exact fH m ag34 O25 (lx (.k4 .nil))
 rintro ag36 j11 O27 m
 refine v0 ?_
 exact fH m ag36 O27 (kR [1, 2, 3, 4, 5, 6, 7, 8] rfl rfl (.k4 .nil))
 refine v0 ?_
 exact lD m ag34 O25 (lx (.k4 .nil))
 rintro ag37 ⟨r20, r21⟩ t9 m
 refine v0 (vn (fun _ => bU rfl) (vn (fun _ => aJ fC rfl rfl) ?_))
 refine ve fun u => aL 3 ([nZ p0.Seq, aZ ag33, aZ ag31, aZ ag37, aZ gV]) u rfl rfl (cI rfl) (cK (bX _ _ _) rfl) F3 rfl rfl fun K33 => qk K33 rfl ?_
 exact fH m (ag33, ag31, ag37, gV) ⟨t8, t7, t9, (bJ.set (bJ.set oV))⟩ (kR [2, 3, 4, 1, 0, 7] rfl rfl .nil)
 refine vs (v0 ?_)
 refine pX m (σ := (List aK)) (τ := dD) (fun g s => [(some k2, .obj 62 (aG p1)), (some p0K, .obj 30 ([nZ p0.Seq, aZ gS, aZ gC, aZ gE, aZ g])), (gS.t, .obj 60 (fl aN (p0.Snaps : List aE) gS.sp)), (gC.t, .obj 44 (fl aD (p0.Chunks : List aA) gC.sp)), (gE.t, .obj 99 (fl aR (p0.Exps : List aI) gE.sp)), (g.t, .obj 49 (fl aT (s : List aK) g.sp))]) (fun g s => bJ g 4 (s : List aK).length) (fun g s => .nil) (fun x m => ?_) ?_
 refine v0 ?_
 refine vi m (fun c25 m => ?_) fun c25 m => ?_
 refine vs (vs (v0 (vn (fun _ => aJ fJ rfl rfl) (vl 0 _ cG rfl rfl rfl ?_))))
 obtain ⟨_, Y9, m⟩ := aC m
 refine ve fun u => dX ((bK u [1, 2, 3, 4, 5, 0] rfl rfl).1.trans (dM h [(some p0K, .obj 30 ([nZ p0.Seq, aZ gS, aZ gC, aZ gE, aZ gV])), (gS.t, .obj 60 (fl aN (p0.Snaps : List aE) gS.sp)), (gC.t, .obj 44 (fl aD (p0.Chunks : List aA) gC.sp)), (gE.t, .obj 99 (fl aR (p0.Exps : List aI) gE.sp)), (gV.t, .obj 49 (fl aT (p0.Vols : List aK) gV.sp))] [(some k2, .obj 62 (aG p1))]).symm) (cV (NR (hp h [(some k2, .obj 62 (aG p1))]) ok_Snaps oC oE oV (dG [(some p0K, .obj 30 ([nZ p0.Seq, aZ gS, aZ gC, aZ gE, aZ gV])), (gS.t, .obj 60 (fl aN (p0.Snaps : List aE) gS.sp)), (gC.t, .obj 44 (fl aD (p0.Chunks : List aA) gC.sp)), (gE.t, .obj 99 (fl aR (p0.Exps : List aI) gE.sp)), (gV.t, .obj 49 (fl aT (p0.Vols : List aK) gV.sp))] [(some k2, .obj 62 (aG p1))] (bK u [1, 2, 3, 4, 5, 0] rfl rfl).2).2 Y9) rfl HS rfl ?_)
 rintro x h' ⟨K34, rfl, rfl⟩
 have K35 := bK (L' := [(some k2, .obj 62 (aG p1)), (some p0K, .obj 30 ([nZ p0.Seq, aZ gS, aZ gC, aZ gE, aZ gV])), (gS.t, .obj 60 (fl aN (p0.Snaps : List aE) gS.sp)), (gC.t, .obj 44 (fl aD (p0.Chunks : List aA) gC.sp)), (gE.t, .obj 99 (fl aR (p0.Exps : List aI) gE.sp)), (gV.t, .obj 49 (fl aT (p0.Vols : List aK) gV.sp))]) (eU (dG [(some p0K, .obj 30 ([nZ p0.Seq, aZ gS, aZ gC, aZ gE, aZ gV])), (gS.t, .obj 60 (fl aN (p0.Snaps : List aE) gS.sp)), (gC.t, .obj 44 (fl aD (p0.Chunks : List aA) gC.sp)), (gE.t, .obj 99 (fl aR (p0.Exps : List aI) gE.sp)), (gV.t, .obj 49 (fl aT (p0.Vols : List aK) gV.sp))] [(some k2, .obj 62 (aG p1))] (bK u [1, 2, 3, 4, 5, 0] rfl rfl).2).1 K34) [5, 0, 1, 2, 3, 4] rfl rfl
 refine qk K35.2 ((dM h [(some p0K, .obj 30 ([nZ p0.Seq, aZ gS, aZ gC, aZ gE, aZ gV])), (gS.t, .obj 60 (fl aN (p0.Snaps : List aE) gS.sp)), (gC.t, .obj 44 (fl aD (p0.Chunks : List aA) gC.sp)), (gE.t, .obj 99 (fl aR (p0.Exps : List aI) gE.sp)), (gV.t, .obj 49 (fl aT (p0.Vols : List aK) gV.sp))] [(some k2, .obj 62 (aG p1))]).trans K35.1) ?_
 refine v0 ?_
 refine vi m (fun c26 m => ?_) fun c26 m => ?_
 refine vs (v0 (v0 ?_))
 refine gA m fun m => ?_
 refine gA m fun m => ?_
 refine gA m fun m => ?_
 refine gA m fun m => ?_
 refine gA m fun m => ?_
 cases m
 exact vr fun u => dY.of1 (.inl rfl) (fL _ _ (.sc (.int _ _)) rfl) (bO u [1, 2, 3, 4, 5] rfl).2 (aX.refl _ _) ⟨gS, ok_Snaps, gC, oC, gE, oE, gV, oV, (bO u [1, 2, 3, 4, 5] rfl).1, rfl, rfl⟩
 refine v0 (v0 ?_)
 refine vz [(1000000, some p0K, .obj 30 ([nZ p0.Seq, aZ gS, aZ gC, aZ gE, aZ gV])), (1000000, some k2, .obj 62 (aG p1)), (24, gV.t, .obj 49 (fl aT (p0.Vols : List aK) gV.sp))] mixed (fun u => ⟨fun _ => aO 1 u rfl, fun _ => aO 0 u rfl, fun _ => aO 5 u rfl, trivial⟩) fun u => ?_
 refine aM 0 rfl (fun _ _ _ _ => bN (.ptr _ _) rfl) ?_
 refine aM 1 rfl (fun _ _ _ _ => bU rfl) ?_
 refine aM 2 rfl (fun _ _ _ _ => aJ fI rfl rfl) ?_
 refine aM 3 rfl (fun _ _ hi hB => bH (aZ gV) fZ rfl (At.s (bR.get 0 hi rfl (hB 1000000 (by kernel_rfl)))) rfl) ?_
 refine aM 4 rfl (fun _ _ _ _ => aJ fJ rfl rfl) ?_
 refine aM 5 rfl (fun _ _ hi hB => bH (nZ p1.Vol) cG rfl (At.s (bR.get 1 hi rfl (hB 1000000 (by kernel_rfl)))) rfl) ?_
 refine aM 6 rfl (fun _ _ _ _ => bN (.ptr _ _) rfl) ?_
 refine aM 7 rfl (fun _ _ _ _ => bU rfl) ?_
 refine aM 8 rfl (fun _ _ _ _ => aJ fI rfl rfl) ?_
 refine aM 9 rfl (fun _ _ hi hB => bH (aZ gV) fZ rfl (At.s (bR.get 0 hi rfl (hB 1000000 (by kernel_rfl)))) rfl) ?_
 refine aM 10 rfl (fun _ _ _ _ => aJ fJ rfl rfl) ?_
 refine aM 11 rfl (fun _ _ hi hB => bH (nZ p1.Vol) cG rfl (At.s (bR.get 1 hi rfl (hB 1000000 (by kernel_rfl)))) rfl) ?_
 refine aM 12 rfl (fun _ _ _ _ => bN (.ptr _ _) rfl) ?_
 refine aM 13 rfl (fun _ _ _ _ => bU rfl) ?_
 refine aM 14 rfl (fun _ _ _ _ => aJ fI rfl rfl) ?_
 refine aM 15 rfl (fun _ _ hi hB => bH (aZ gV) fZ rfl (At.s (bR.get 0 hi rfl (hB 1000000 (by kernel_rfl)))) rfl) ?_
 refine aM 16 rfl (fun _ _ _ _ => aJ fJ rfl rfl) ?_
 refine aM 17 rfl (fun _ _ hi hB => bH (nZ p1.Vol) cG rfl (At.s (bR.get 1 hi rfl (hB 1000000 (by kernel_rfl)))) rfl) ?_
 obtain ⟨x21, X13, m⟩ := aC m
 refine aM 18 rfl (fun _ _ _ _ => dE X13 i9 oV rfl rfl) ?_
 refine aM 19 rfl (fun _ _ _ _ => dJ (bJ.ne oV X13) xS rfl rfl) ?_
 refine aM 20 rfl (fun _ _ hi hB => eZ (fo := 1) (nZ x21.Epoch) X13 eJ oV cG rfl (bR.get 2 hi rfl (hB 24 (by kernel_rfl))) (fun _ => rfl)) ?_
 refine aM 21 rfl (fun _ _ _ _ => lJ rfl rfl rfl trivial) ?_
 obtain ⟨x22, X14, m⟩ := aC m
 refine aM 22 rfl (fun _ _ _ _ => dE X14 i9 oV rfl rfl) ?_
 refine aM 23 rfl (fun _ _ _ _ => dJ (bJ.ne oV X14) l8 rfl rfl) ?_
 refine eX 24 rfl (by kernel_rfl) (cR (fo := 2) ({ x22 with State := 1 } : aK) 5 u X14 eJ oV rfl rfl rfl rfl (cO.refl _ _) xN rfl rfl fun K36 => ⟨⟨fun _ => aO 1 K36 rfl, fun _ => aO 0 K36 rfl, fun e => absurd e (by decide), trivial⟩, ?_⟩)
 obtain ⟨x23, X15, m⟩ := aC m
 refine aM 25 rfl (fun _ _ _ _ => dE X15 i9 (bJ.set oV) rfl rfl) ?_
 refine aM 26 rfl (fun _ _ _ _ => dJ (bJ.ne (bJ.set oV) X15) xS rfl rfl) ?_
 refine eX 27 rfl (by kernel_rfl) (cR (fo := 1) ({ x23 with Epoch := IntKind.wrap .i64 (x21.Epoch + 1) } : aK) 5 K36 X15 eJ (bJ.set oV) rfl rfl rfl rfl (cO.refl _ _) xN rfl rfl fun K37 => ⟨⟨fun _ => aO 1 K37 rfl, fun _ => aO 0 K37 rfl, fun e => absurd e (by decide), trivial⟩, ?_⟩)
 refine dL (by kernel_rfl) (qk (f := .c 442 _ (.c 441 _ (.c 440 _ (.c 439 _ (.c 438 _ (.c 437 _ (.c 436 _ (.c 435 _ (.c 434 _ (.c 433 _ (.c 432 _ (.c 431 _ (.c 430 _ (.c 429 _ (.c 428 _ (.c 427 _ (.c 426 _ (.c 425 _ (.c 424 _ (.c 423 _ (.c 422 _ (.c 421 _ (.c 420 _ (.c 419 _ (.c 418 _ (.c 417 _ _)))))))))))))))))))))))))) K37 rfl ?_)
 exact fH m gV (bJ.set (bJ.set oV)) (lx .nil)
 refine v0 ?_
 exact fH m gV oV (lx .nil)
 rintro ag38 j12 O28 m
 exact fH m (gS, gC, gE, ag38) ⟨ok_Snaps, oC, oE, O28⟩ (lx .nil)
 rintro ⟨ag39, ag40, ag41, ag42⟩ ⟨j13, j14, j15, j16⟩ ⟨O29, O30, O31, O32⟩ m
 exact fH m (ag39, ag40, ag41, ag42) ⟨O29, O30, O31, O32⟩ (lx .nil)
 rintro ⟨ag43, ag44, ag45, ag46⟩ ⟨j17, j18, j19, j20, j21⟩ ⟨O33, O34, O35, O36⟩ m
 exact fH m (ag43, ag44, ag45, ag46) ⟨O33, O34, O35, O36⟩ (lx .nil)
 rintro ⟨ag47, ag48, ag49, ag50⟩ ⟨j22, j23, j24, j25, j26⟩ ⟨O37, O38, O39, O40⟩ m
 exact fH m (ag47, ag48, ag49, ag50) ⟨O37, O38, O39, O40⟩ (lx .nil)
 rintro ⟨ag51, ag52, ag53, ag54⟩ ⟨j27, j28, j29, j30, j31⟩ ⟨O41, O42, O43, O44⟩ m
 refine vs (v0 (v0 ?_))
 cases m
 exact vr fun u => dY.of1 (.inl rfl) (fL _ _ (.sc (.int _ _)) rfl) (bO u [1, 2, 3, 4, 5] rfl).2 (aX.refl _ _) ⟨ag51, O41, ag52, O42, ag53, O43, ag54, O44, (bO u [1, 2, 3, 4, 5] rfl).1, rfl, rfl⟩
theorem V9 : aU Tryz.prog 91 = true := by kernel_rfl
open Go.Vm
def R4 (m : Nat) (p0 : aB) (p1 : a8) : Option (aB × Int) :=
 after ((MO m p0).bind fun y0 => if (!y0) = true then (some (.brk true)) else if (decide (p1.Kind < 1)) = true then (some (.brk true)) else some (.brk (decide (5 < p1.Kind))) : Option (Lp (Bool) (aB × Int))) fun j0 => if j0 = true then (some (({ Seq := 0, Snaps := [], Chunks := [], Exps := [], Vols := [] } : aB), 1)) else (HO m p0).bind fun y1 => (OI m p1).bind fun y2 => (OJ m ({ Seq := y1.Seq, Snaps := y1.Snaps, Chunks := y1.Chunks, Exps := y1.Exps, Vols := y1.Vols } : aB) y2).bind fun y3 => if (y3.1 != 0) = true then (some (({ Seq := 0, Snaps := [], Chunks := [], Exps := [], Vols := [] } : aB), y3.1)) else (MO m ({ Seq := y3.2.1, Snaps := y3.2.2.1, Chunks := y3.2.2.2.1, Exps := y3.2.2.2.2.1, Vols := y3.2.2.2.2.2 } : aB)).bind fun y4 => if (!y4) = true then (some (({ Seq := 0, Snaps := [], Chunks := [], Exps := [], Vols := [] } : aB), 1)) else some (({ Seq := y3.2.1, Snaps := y3.2.2.1, Chunks := y3.2.2.2.1, Exps := y3.2.2.2.2.1, Vols := y3.2.2.2.2.2 } : aB), 0)
theorem W36 {w : Nat} {p0 : aB} {p1 : a8} {o : aB × Int} (h : aH) (m : R4 w p0 p1 = some o) :
 aP Tryz.prog 36 [.agg (aF p0), .agg (aG p1)] h (fun r h' => r = .tup [.agg (aF o.1), nZ o.2] ∧ h' = h) := by
 refine fW 36 [.cell 4 30, .tmp 5] Tryz.func36 rfl rfl rfl rfl ?_
 unfold R4 at m
 refine vs (v0 ?_)
 refine ve fun u => cQ u rfl rfl fun k2 K3 => qk K3 rfl ?_
 refine ve fun u => cQ u rfl rfl fun k5 K6 => qk K6 rfl ?_
 refine ve fun u => bE ([nZ 0, sZ, sZ, sZ, sZ]) u mO rfl rfl fun k8 K9 => qk K9 rfl ?_
 refine vs (vs ?_)
 refine cW m (σ := Bool) (τ := Unit) (fun g s => [(some k8, .obj 30 ([nZ 0, sZ, sZ, sZ, sZ])), (some k5, .obj 62 (aG p1)), (some k2, .obj 30 (aF p0))]) (fun g s => .c 2 (.ptr k2 0) (.c 3 (.ptr k5 0) (.c 4 (.ptr k8 0) (.c 20 (.sc (.bool s)) .nil)))) (fun x m => ?_) ?_
 refine v0 (vl 2 (.agg (aF p0)) eK rfl rfl rfl ?_)
 refine vk XT QH m rfl rfl fun _ m => ?_
 refine vi m (fun b0 m => ?_) fun b0 m => ?_
 rw [b0]
 exact bD m (lx (.k4 .nil))
 rw [b0]
 refine vn (fun _ => aJ xU rfl rfl) (vl 1 _ cG rfl rfl rfl ?_)
 refine vi m (fun b1 m => ?_) fun b1 m => ?_
 rw [b1]
 exact bD m (lx (.k4 .nil))
 rw [b1]
 refine vn (fun _ => aJ xU rfl rfl) (vl 1 _ cG rfl rfl rfl ?_)
 exact bD m (lx (.k4 .nil))
 rintro _ j0 m
 refine v0 ?_
 refine vi m (fun c0 m => ?_) fun c0 m => ?_
 refine vs (v0 (vn (fun _ => eV ([nZ 0, sZ, sZ, sZ, sZ]) xP rfl) ?_))
 refine ve fun u => aL 0 ([nZ 0, sZ, sZ, sZ, sZ]) u rfl rfl rfl rfl jF rfl rfl fun K0 => qk K0 rfl ?_
 refine v0 ?_
 cases m
 exact vr fun u => dY.of2 (.inl rfl) (n3 (.agg ([nZ 0, sZ, sZ, sZ, sZ])) eK rfl (bB 0 u rfl) rfl) (fL _ _ (.sc (.int _ _)) rfl) (aV (List.nil_sublist _) u).1 (aX.agg (.cons (aX.refl _ _) (.cons (aS _) (.cons (aS _) (.cons (aS _) (.cons (aS _) .nil)))))) (aX.refl _ _) ⟨rfl, rfl⟩
 refine v0 (vs (v0 (vl 2 (.agg (aF p0)) eK rfl rfl rfl ?_)))
 obtain ⟨y0, Y0, m⟩ := aC m
 refine ve fun u => cV (V3 _ Y0) rfl U5 rfl ?_
 rintro x h' ⟨ag0, O0, ag1, O1, ag2, O2, ag3, O3, K1, rfl, rfl⟩
 refine qk (eU u K1) (dM h [(ag0.t, .obj 60 (fl aN (y0.Snaps : List aE) ag0.sp)), (ag1.t, .obj 44 (fl aD (y0.Chunks : List aA) ag1.sp)), (ag2.t, .obj 99 (fl aR (y0.Exps : List aI) ag2.sp)), (ag3.t, .obj 49 (fl aT (y0.Vols : List aK) ag3.sp))] [(some k8, .obj 30 ([nZ 0, sZ, sZ, sZ, sZ])), (some k5, .obj 62 (aG p1)), (some k2, .obj 30 (aF p0))]) ?_
 refine ve fun u => bE ([nZ 0, sZ, sZ, sZ, sZ]) u mO rfl rfl fun k42 K2 => qk K2 rfl ?_
 refine ve fun u => aL 0 ([nZ y0.Seq, aZ ag0, aZ ag1, aZ ag2, aZ ag3]) u rfl rfl rfl (by repeat (first | exact rfl | refine cK (gG _ _ _) ?_ | refine cK (bX _ _ _) ?_ | refine cK rfl ?_)) jF rfl rfl fun K4 => qk K4 rfl ?_
 refine vs (v0 (vl 6 (.agg (aG p1)) mP rfl rfl rfl ?_))
 refine vk Z8 V5 m rfl rfl fun _ m => ?_
 obtain ⟨y1, Y1, m⟩ := aC m
 refine ve fun u => dX ((bK u [0, 1, 2, 3, 4, 5, 6, 7] rfl rfl).1.trans (dM h [(some k42, .obj 30 ([nZ y0.Seq, aZ ag0, aZ ag1, aZ ag2, aZ ag3])), (ag0.t, .obj 60 (fl aN (y0.Snaps : List aE) ag0.sp)), (ag1.t, .obj 44 (fl aD (y0.Chunks : List aA) ag1.sp)), (ag2.t, .obj 99 (fl aR (y0.Exps : List aI) ag2.sp)), (ag3.t, .obj 49 (fl aT (y0.Vols : List aK) ag3.sp))] [(some k8, .obj 30 ([nZ 0, sZ, sZ, sZ, sZ])), (some k5, .obj 62 (aG p1)), (some k2, .obj 30 (aF p0))]).symm) (cV (Z9 (hp h [(some k8, .obj 30 ([nZ 0, sZ, sZ, sZ, sZ])), (some k5, .obj 62 (aG p1)), (some k2, .obj 30 (aF p0))]) O0 O1 O2 O3 (dG [(some k42, .obj 30 ([nZ y0.Seq, aZ ag0, aZ ag1, aZ ag2, aZ ag3])), (ag0.t, .obj 60 (fl aN (y0.Snaps : List aE) ag0.sp)), (ag1.t, .obj 44 (fl aD (y0.Chunks : List aA) ag1.sp)), (ag2.t, .obj 99 (fl aR (y0.Exps : List aI) ag2.sp)), (ag3.t, .obj 49 (fl aT (y0.Vols : List aK) ag3.sp))] [(some k8, .obj 30 ([nZ 0, sZ, sZ, sZ, sZ])), (some k5, .obj 62 (aG p1)), (some k2, .obj 30 (aF p0))] (bK u [0, 1, 2, 3, 4, 5, 6, 7] rfl rfl).2).2 Y1) rfl V9 rfl ?_)
 rintro x h' ⟨ag4, O4, ag5, O5, ag6, O6, ag7, O7, K5, rfl, rfl⟩
 have K7 := bK (L' := [(some k42, .obj 30 ([nZ y1.2.1, aZ ag4, aZ ag5, aZ ag6, aZ ag7])), (ag4.t, .obj 60 (fl aN (y1.2.2.1 : List aE) ag4.sp)), (ag5.t, .obj 44 (fl aD (y1.2.2.2.1 : List aA) ag5.sp)), (ag6.t, .obj 99 (fl aR (y1.2.2.2.2.1 : List aI) ag6.sp)), (ag7.t, .obj 49 (fl aT (y1.2.2.2.2.2 : List aK) ag7.sp)), (some k8, .obj 30 ([nZ 0, sZ, sZ, sZ, sZ])), (some k5, .obj 62 (aG p1)), (some k2, .obj 30 (aF p0))]) (eU (dG [(some k42, .obj 30 ([nZ y0.Seq, aZ ag0, aZ ag1, aZ ag2, aZ ag3])), (ag0.t, .obj 60 (fl aN (y0.Snaps : List aE) ag0.sp)), (ag1.t, .obj 44 (fl aD (y0.Chunks : List aA) ag1.sp)), (ag2.t, .obj 99 (fl aR (y0.Exps : List aI) ag2.sp)), (ag3.t, .obj 49 (fl aT (y0.Vols : List aK) ag3.sp))] [(some k8, .obj 30 ([nZ 0, sZ, sZ, sZ, sZ])), (some k5, .obj 62 (aG p1)), (some k2, .obj 30 (aF p0))] (bK u [0, 1, 2, 3, 4, 5, 6, 7] rfl rfl).2).1 K5) [0, 1, 2, 3, 4, 5, 6, 7] rfl rfl
 refine qk K7.2 ((dM h [(some k42, .obj 30 ([nZ y1.2.1, aZ ag4, aZ ag5, aZ ag6, aZ ag7])), (ag4.t, .obj 60 (fl aN (y1.2.2.1 : List aE) ag4.sp)), (ag5.t, .obj 44 (fl aD (y1.2.2.2.1 : List aA) ag5.sp)), (ag6.t, .obj 99 (fl aR (y1.2.2.2.2.1 : List aI) ag6.sp)), (ag7.t, .obj 49 (fl aT (y1.2.2.2.2.2 : List aK) ag7.sp))] [(some k8, .obj 30 ([nZ 0, sZ, sZ, sZ, sZ])), (some k5, .obj 62 (aG p1)), (some k2, .obj 30 (aF p0))]).trans K7.1) ?_
 refine vs (vs (v0 (v0 ?_)))
 refine vi m (fun c1 m => ?_) fun c1 m => ?_
 refine vs (v0 (vn (fun _ => eV ([nZ 0, sZ, sZ, sZ, sZ]) xP rfl) ?_))
 refine ve fun u => aL 5 ([nZ 0, sZ, sZ, sZ, sZ]) u rfl rfl rfl rfl jF rfl rfl fun K8 => qk K8 rfl ?_
 refine v0 ?_
 cases m
 exact vr fun u => dY.of2 (.inl rfl) (n3 (.agg ([nZ 0, sZ, sZ, sZ, sZ])) eK rfl (bB 5 u rfl) rfl) (fL _ _ (.sc (.int _ _)) rfl) (aV (List.nil_sublist _) u).1 (aX.agg (.cons (aX.refl _ _) (.cons (aS _) (.cons (aS _) (.cons (aS _) (.cons (aS _) .nil)))))) (aX.refl _ _) ⟨rfl, rfl⟩
 refine v0 (vs (vs (v0 (vl 0 (.agg ([nZ y1.2.1, aZ ag4, aZ ag5, aZ ag6, aZ ag7])) eK rfl rfl rfl ?_))))
 obtain ⟨_, Y2, m⟩ := aC m
 refine vn (fun u => cE (f8 (.cons (Br.agg (.cons (Br.refl _ _) (.cons (Br.aw 1 e8 O4 u rfl) (.cons (Br.aw 2 cM O5 u rfl) (.cons (Br.aw 3 fB O6 u rfl) (.cons (Br.aw 4 eJ O7 u rfl) .nil)))))) .nil) rfl (XT _ Y2)) rfl QH rfl) (v0 ?_)
 refine vi m (fun c2 m => ?_) fun c2 m => ?_
 refine vs (v0 (vn (fun _ => eV ([nZ 0, sZ, sZ, sZ, sZ]) xP rfl) ?_))
 refine ve fun u => aL 5 ([nZ 0, sZ, sZ, sZ, sZ]) u rfl rfl rfl rfl jF rfl rfl fun K73 => qk K73 rfl ?_
 refine v0 ?_
 cases m
 exact vr fun u => dY.of2 (.inl rfl) (n3 (.agg ([nZ 0, sZ, sZ, sZ, sZ])) eK rfl (bB 5 u rfl) rfl) (fL _ _ (.sc (.int _ _)) rfl) (aV (List.nil_sublist _) u).1 (aX.agg (.cons (aX.refl _ _) (.cons (aS _) (.cons (aS _) (.cons (aS _) (.cons (aS _) .nil)))))) (aX.refl _ _) ⟨rfl, rfl⟩
 refine v0 (vs (v0 (vl 0 (.agg ([nZ y1.2.1, aZ ag4, aZ ag5, aZ ag6, aZ ag7])) eK rfl rfl rfl ?_)))
 refine ve fun u => aL 5 ([nZ y1.2.1, aZ ag4, aZ ag5, aZ ag6, aZ ag7]) u rfl rfl rfl (by repeat (first | exact rfl | refine cK (gG _ _ _) ?_ | refine cK (bX _ _ _) ?_ | refine cK rfl ?_)) jF rfl rfl fun K75 => qk K75 rfl ?_
 refine v0 ?_
 cases m
 refine TJ fun u => ?_
 obtain ⟨K76, le0⟩ := gY.fzO (n := 36) (f := _) 1 4 ([nZ y1.2.1, .sl none 4 (List.map aN y1.2.2.1), aZ ag5, aZ ag6, aZ ag7]) u rfl (.cons (Fz.refl _ _ _) (.cons (Fz.aw 1 e8 O4 u rfl (.refl _)) (.cons (Fz.refl _ _ _) (.cons (Fz.refl _ _ _) (.cons (Fz.refl _ _ _) .nil)))))
 obtain ⟨K78, le1⟩ := gY.fzO (n := 36) (f := _) 1 3 ([nZ y1.2.1, .sl none 4 (List.map aN y1.2.2.1), .sl none 35 (List.map aD y1.2.2.2.1), aZ ag6, aZ ag7]) K76 rfl (.cons (Fz.refl _ _ _) (.cons (Fz.refl _ _ _) (.cons (Fz.aw 1 cM O5 K76 rfl (.refl _)) (.cons (Fz.refl _ _ _) (.cons (Fz.refl _ _ _) .nil)))))
 obtain ⟨K80, le2⟩ := gY.fzO (n := 36) (f := _) 1 2 ([nZ y1.2.1, .sl none 4 (List.map aN y1.2.2.1), .sl none 35 (List.map aD y1.2.2.2.1), .sl none 3 (List.map aR y1.2.2.2.2.1), aZ ag7]) K78 rfl (.cons (Fz.refl _ _ _) (.cons (Fz.refl _ _ _) (.cons (Fz.refl _ _ _) (.cons (Fz.aw 1 fB O6 K78 rfl (.refl _)) (.cons (Fz.refl _ _ _) .nil)))))
 obtain ⟨K82, le3⟩ := gY.fzO (n := 36) (f := _) 1 1 ([nZ y1.2.1, .sl none 4 (List.map aN y1.2.2.1), .sl none 35 (List.map aD y1.2.2.2.1), .sl none 3 (List.map aR y1.2.2.2.2.1), .sl none 4 (List.map aT y1.2.2.2.2.2)]) K80 rfl (.cons (Fz.refl _ _ _) (.cons (Fz.refl _ _ _) (.cons (Fz.refl _ _ _) (.cons (Fz.refl _ _ _) (.cons (Fz.aw 1 eJ O7 K80 rfl (.refl _)) .nil)))))
 exact IB.mk (gY.trans (gY.trans (gY.trans le0 le1) le2) le3) (dY.of2 (.inl rfl) (n3 (.agg (aF ({ Seq := y1.2.1, Snaps := y1.2.2.1, Chunks := y1.2.2.2.1, Exps := y1.2.2.2.2.1, Vols := y1.2.2.2.2.2 } : aB))) eK rfl (bB 1 K82 rfl) rfl) (fL _ _ (.sc (.int _ _)) rfl) (aV (List.nil_sublist _) K82).1 (aX.refl _ _) (aX.refl _ _) ⟨rfl, rfl⟩)
theorem WA : aU Tryz.prog 36 = true := by kernel_rfl
open Go.Vm
def pV (m : Nat) (p0 : List dK) (q0 : Int) : Option (Lp (Int) (Bool)) :=
 if (decide (q0 < (p0.length : Int))) = true then ((ix p0 q0).bind fun x0 => if (decide (200 < (x0.Data.length : Int))) = true then (some (.ret true)) else some (.go (IntKind.wrap .i64 (q0 + 1)))) else some (.brk q0)
def EZ (m : Nat) (p0 : List dK) : Option (Bool) :=
 if (decide (6 < (p0.length : Int))) = true then (some true) else after (aY (fun s => pV m p0 s) m 0) fun r0 => some false
theorem R5 {u : Nat} {p0 : List dK} {o : Bool} (h : aH) (m : EZ u p0 = some o) :
 aP Tryz.prog 139 [.sl none 2 (List.map eE p0)] h (fun r h' => r = .sc (.bool o) ∧ h' = h) := by
 refine fW 20 [.tmp 2] Tryz.func139 rfl rfl rfl rfl ?_
 unfold EZ at m
 refine v (v (dH uX rfl (v ?_)))
 refine vi m (fun c4 m => ?_) fun c4 m => ?_
 refine v (v ?_)
 injection m with m; subst m
 exact eM rfl
 refine v (v ?_)
 refine eO m (σ := Int) (τ := Unit) (fun g s => []) (fun g s => .c 0 (.sl none 2 (List.map eE p0)) (.c 3 (nZ s) .nil)) () (lx (.k2 .nil)) ?_ ?_
 rintro _ q0 x m
 replace m : pV u p0 q0 = some x := m
 unfold pV at m
 refine v (dH uX rfl (v ?_))
 refine vi m (fun c0 m => ?_) fun c0 m => ?_
 refine v (v (v ?_))
 refine vx m mQ rfl rfl fun _ _ m => ?_
 refine dH jJ rfl (v ?_)
 refine vi m (fun c1 m => ?_) fun c1 m => ?_
 refine v (v ?_)
 refine gA m fun m => ?_
 injection m with m; subst m
 exact eM rfl
 refine v (v ?_)
 exact bD m (lx (.k2 .nil))
 refine v ?_
 exact iS m (lx (.k2 .nil))
 rintro _ r0 m
 refine v (v ?_)
 injection m with m; subst m
 exact eM rfl
theorem KW : aU Tryz.prog 139 = true := by kernel_rfl
def yO (m : Nat) (p0 : List dK) (q0 : Int) : Option (Lp (Int) ((List dK) × Int)) :=
 if (decide (q0 < (p0.length : Int))) = true then ((ix p0 q0).bind fun x0 => (xX m x0.Path).bind fun y0 => if (!y0) = true then (some (.ret ([], 1))) else some (.go (IntKind.wrap .i64 (q0 + 1)))) else some (.brk q0)
def yP (m : Nat) (p0 : List dK) (q0 : List dK) (q1 : Int) (q2 : Int) : Option (Lp (Int) (Lp ((List dK) × Int) ((List dK) × Int))) :=
 after (if (decide (q2 < (q0.length : Int))) = true then ((ix q0 q2).bind fun x0 => (ix p0 q1).bind fun x1 => some (.brk (Op.bytesLess x0.Path.toList x1.Path.toList))) else some (.brk false) : Option (Lp (Bool) (Lp (Int) (Lp ((List dK) × Int) ((List dK) × Int))))) fun j0 => if j0 = true then (some (.go (IntKind.wrap .i64 (q2 + 1)))) else some (.brk q2)
def yQ (m : Nat) (p0 : List dK) (q0 : List dK) (q1 : Int) : Option (Lp ((List dK) × Int) ((List dK) × Int)) :=
 if (decide (q1 < (p0.length : Int))) = true then (after (aY (fun s => yP m p0 q0 q1 s) m 0) fun r0 => after (if (decide (r0 < (q0.length : Int))) = true then ((ix q0 r0).bind fun x0 => (ix p0 q1).bind fun x1 => some (.brk (x0.Path.toList == x1.Path.toList))) else some (.brk false) : Option (Lp (Bool) (Lp ((List dK) × Int) ((List dK) × Int)))) fun j0 => if j0 = true then (some (.ret ([], 9))) else (slc q0 0 r0).bind fun x2 => (ix p0 q1).bind fun x3 => (ix p0 q1).bind fun x4 => (app ([] : List dK) x2).bind fun z0 => (vA m x4.Data).bind fun y0 => (app z0 ([({ Path := x3.Path, Data := y0 } : dK)] : List dK)).bind fun z1 => (slc q0 r0 (q0.length : Int)).bind fun x5 => (app z1 x5).bind fun z2 => some (.go (z2, IntKind.wrap .i64 (q1 + 1)))) else some (.brk (q0, q1))
def R6 (m : Nat) (p0 : List dK) : Option ((List dK) × Int) :=
 (EZ m p0).bind fun y4 => if y4 = true then (some ([], 2)) else after (aY (fun s => yO m p0 s) m 0) fun r0 => after (aY (fun s => yQ m p0 s.1 s.2) m ([], 0)) fun ⟨r1, r2⟩ => some (r1, 0)
theorem W85 {w : Nat} {p0 : List dK} {o : (List dK) × Int} (h : aH) (m : R6 w p0 = some o) :
 aP Tryz.prog 85 [.sl none 2 (List.map eE p0)] h (fun r h' => r = .tup [.sl none 2 (List.map eE o.1), nZ o.2] ∧ h' = h) := by
 refine fW 91 [.tmp 2, .tmp 3] Tryz.func85 rfl rfl rfl rfl ?_
 unfold R6 at m
 refine v (v ?_)
 refine vk R5 KW m rfl rfl fun _ m => ?_
 refine v ?_
 refine vi m (fun c6 m => ?_) fun c6 m => ?_
 refine v (v ?_)
 cases m
 exact vr fun u => dY.of2 (.inl rfl) (fL _ _ (.sc (.slice _ _ _)) rfl) (fL _ _ (.sc (.int _ _)) rfl) (gX.refl _) (aS _) (aX.refl _ _) ⟨rfl, rfl⟩
 refine v (v ?_)
 refine eO m (σ := Int) (τ := Unit) (fun g s => []) (fun g s => .c 0 (.sl none 2 (List.map eE p0)) (.c 4 (nZ s) .nil)) () (lx (.k2 .nil)) ?_ ?_
 rintro _ q0 x m
 replace m : yO w p0 q0 = some x := m
 unfold yO at m
 refine v (dH uX rfl (v ?_))
 refine vi m (fun c0 m => ?_) fun c0 m => ?_
 refine v (v (v ?_))
 refine vx m mQ rfl rfl fun _ _ m => ?_
 refine vk GU AO m rfl rfl fun _ m => ?_
 refine v ?_
 refine vi m (fun c1 m => ?_) fun c1 m => ?_
 refine v (v ?_)
 refine gA m fun m => ?_
 cases m
 exact vr fun u => dY.of2 (.inl rfl) (fL _ _ (.sc (.slice _ _ _)) rfl) (fL _ _ (.sc (.int _ _)) rfl) (gX.refl _) (aS _) (aX.refl _ _) ⟨rfl, rfl⟩
 refine v (v ?_)
 exact bD m (lx (.k2 .nil))
 refine v ?_
 exact iS m (lx (.k2 .nil))
 rintro _ r0 m
 refine v (v (oO (B4 (.tok 95 2 (([] : List dK).length * 2)) 5 (ow none 2 (List.map eE [])) (hM _ _)) ?_))
 refine lT m (σ := (List dK) × Int) (τ := Option bZ) (fun g s => [(g, .tok 95 2 ((s.1 : List dK).length * 2))]) (fun g s => (g = none → s.1 = [])) (fun g s => .c 0 (.sl none 2 (List.map eE p0)) (.c 5 (ow g 2 (List.map eE s.1)) (.c 6 (nZ s.2) .nil))) none (fun _ => rfl) (lx (.k3 .nil)) ?_ ?_
 rintro tg0 ⟨q1, q2⟩ x t0 m
 replace m : yQ w p0 q1 q2 = some x := m
 unfold yQ at m
 refine v (dH uX rfl (v ?_))
 refine vi m (fun c2 m => ?_) fun c2 m => ?_
 refine v (v (v (vs ?_)))
 refine eO m (σ := Int) (τ := Unit) (fun g s => [(tg0, .tok 95 2 ((q1 : List dK).length * 2))]) (fun g s => .c 0 (.sl none 2 (List.map eE p0)) (.c 5 (ow tg0 2 (List.map eE q1)) (.c 6 (nZ q2) (.c 7 (nZ s) .nil)))) () (lx (.k4 .nil)) ?_ ?_
 rintro _ q3 x m
 replace m : yP w p0 q1 q2 q3 = some x := m
 unfold yP at m
 refine vs (vs ?_)
 refine cW m (σ := Bool) (τ := Unit) (fun g s => [(tg0, .tok 95 2 ((q1 : List dK).length * 2))]) (fun g s => .c 0 (.sl none 2 (List.map eE p0)) (.c 5 (ow tg0 2 (List.map eE q1)) (.c 6 (nZ q2) (.c 7 (nZ q3) (.c 46 (.sc (.bool s)) .nil))))) (fun x m => ?_) ?_
 refine v (vq (by kernel_rfl) (vn (fun _ => qC uX t0 rfl) ?_))
 refine vi m (fun b0 m => ?_) fun b0 m => ?_
 rw [b0]
 obtain ⟨_, X0, m⟩ := aC m
 refine vn (fun _ => J5 X0 mQ t0 rfl rfl) ?_
 refine vx m mQ rfl rfl fun _ _ m => ?_
 refine vn (fun _ => wV rfl rfl rfl trivial) ?_
 exact bD m (lx (.k5 .nil))
 rw [b0]
 exact bD m (lx (.k5 .nil))
 rintro _ j0 m
 refine v ?_
 refine vi m (fun c3 m => ?_) fun c3 m => ?_
 refine v (v (v ?_))
 exact bD m (lx (.k4 .nil))
 refine v ?_
 exact iS m (lx (.k4 .nil))
 rintro _ r1 m
 refine vs (vs ?_)
 refine cW m (σ := Bool) (τ := Unit) (fun g s => [(tg0, .tok 95 2 ((q1 : List dK).length * 2))]) (fun g s => .c 0 (.sl none 2 (List.map eE p0)) (.c 5 (ow tg0 2 (List.map eE q1)) (.c 6 (nZ q2) (.c 7 (nZ r1) (.c 65 (.sc (.bool s)) .nil))))) (fun x m => ?_) ?_
 refine v (vq (by kernel_rfl) (vn (fun _ => qC uX t0 rfl) ?_))
 refine vi m (fun b1 m => ?_) fun b1 m => ?_
 rw [b1]
 obtain ⟨_, X1, m⟩ := aC m
 refine vn (fun _ => J5 X1 mQ t0 rfl rfl) ?_
 refine vx m mQ rfl rfl fun _ _ m => ?_
 refine vn (fun _ => wV rfl rfl rfl trivial) ?_
 exact bD m (lx (.k5 .nil))
 rw [b1]
 exact bD m (lx (.k5 .nil))
 rintro _ j1 m
 refine v ?_
 refine vi m (fun c4 m => ?_) fun c4 m => ?_
 refine v (v ?_)
 refine gA m fun m => ?_
 cases m
 exact vr fun u => dY.of2 (.inl rfl) (fL _ _ (.sc (.slice _ _ _)) rfl) (fL _ _ (.sc (.int _ _)) rfl) (aV (List.nil_sublist _) u).1 (aS _) (aX.refl _ _) ⟨rfl, rfl⟩
 refine v (v (v ?_))
 refine vz [] mixed (fun u => trivial) fun u => ?_
 refine aM 0 rfl (fun _ _ _ _ => bN (.sc (.slice _ _ _)) rfl) ?_
 refine aM 1 rfl (fun _ _ _ _ => bN (ow _ _ _) rfl) ?_
 refine aM 2 rfl (fun _ _ _ _ => bN (.sc (.int _ _)) rfl) ?_
 obtain ⟨_, X2, m⟩ := aC m
 refine aM 3 rfl (fun _ _ _ _ => xI X2 mQ rfl t0 rfl rfl rfl) ?_
 refine aM 5 rfl (fun _ _ _ _ => bN (.sl _ _ _) rfl) ?_
 refine aM 6 rfl (fun _ _ _ _ => bN (.sc (.int _ _)) rfl) ?_
 obtain ⟨x0, X3, m⟩ := aC m
 refine aM 7 rfl (fun _ _ _ _ => mL X3 mQ rfl rfl) ?_
 refine aM 8 rfl (fun _ _ _ _ => mM GH rfl rfl) ?_
 refine aM 9 rfl (fun _ _ _ _ => mW (.sc (.string x0.Path)) uP rfl rfl) ?_
 refine aM 10 rfl (fun _ _ _ _ => bN (.sl _ _ _) rfl) ?_
 refine aM 11 rfl (fun _ _ _ _ => bN (.sc (.int _ _)) rfl) ?_
 obtain ⟨x1, X4, m⟩ := aC m
 refine aM 12 rfl (fun _ _ _ _ => mL X4 mQ rfl rfl) ?_
 refine aM 13 rfl (fun _ _ _ _ => mM GI rfl rfl) ?_
 refine aM 14 rfl (fun _ _ _ _ => mW (.sl none 1 (List.map cZ x1.Data)) jR rfl rfl) ?_
 obtain ⟨z0, Z0, m⟩ := aC m
 refine eX 4 rfl (by kernel_rfl) (lY (c := eE) Z0 I8 rfl rfl u nofun (lL (o6 X2 t0)) fun tg1 t1 K0 => ⟨trivial, ?_⟩)
 obtain ⟨y0, Y0, m⟩ := aC m
 refine aM 15 rfl (fun _ _ _ _ => cE (G2 _ Y0) rfl AX rfl) ?_
 refine aM 16 rfl (fun _ _ _ _ => eV (eE ({ Path := x0.Path, Data := y0 } : dK)) TR rfl) ?_
 refine aM 17 rfl (fun _ _ _ _ => eH (List.map eE ([({ Path := x0.Path, Data := y0 } : dK)] : List dK)) I8 rfl rfl rfl rfl) ?_
 obtain ⟨z1, Z1, m⟩ := aC m
 refine eX 18 rfl (by kernel_rfl) (eS (c := eE) 0 Z1 I8 rfl rfl rfl t1 K0 rfl fun tg2 t2 K1 => ⟨trivial, ?_⟩)
 refine aM 19 rfl (fun _ _ _ _ => gU (ow _ _ _) rfl) ?_
 refine dL (by kernel_rfl) (qk (f := .c 8 _ (.c 84 _ (.c 83 _ (.c 82 _ (.c 81 _ (.c 70 _ (.c 80 _ (.c 79 _ (.c 78 _ (.c 77 _ (.c 76 _ (.c 75 _ (.c 74 _ (.c 73 _ (.c 72 _ (.c 71 _ (.c 69 _ (.c 68 _ (.c 67 _ (.c 66 _ _)))))))))))))))))))) K1 rfl ?_)
 refine v ?_
 obtain ⟨_, X5, m⟩ := aC m
 refine vn (fun _ => xI X5 mQ rfl t0 rfl rfl rfl) ?_
 obtain ⟨z2, Z2, m⟩ := aC m
 refine ve fun u => eS (c := eE) 0 Z2 I8 rfl rfl rfl t2 u (lL (o6 X5 t0)) fun tg3 t3 K2 => qk K2 rfl ?_
 refine v ?_
 exact fH m tg3 t3 (kR [0] rfl rfl (.k3 .nil))
 refine v ?_
 exact lD m tg0 t0 (lx (.k3 .nil))
 rintro tg4 ⟨r2, r3⟩ t4 m
 refine v (v ?_)
 cases m
 exact vr fun u => dY.of2 (.inl rfl) (fL _ _ (ow _ _ _) rfl) (fL _ _ (.sc (.int _ _)) rfl) (aV (List.nil_sublist _) u).1 ((eG _ 0 t4 u rfl)) (aX.refl _ _) ⟨rfl, rfl⟩
theorem WB : aU Tryz.prog 85 = true := by kernel_rfl
def NS (m : Nat) : Option ((Ar 64)) :=
 some (⟨[1116352408, 1899447441, 3049323471, 3921009573, 961987163, 1508970993, 2453635748, 2870763221, 3624381080, 310598401, 607225278, 1426881987, 1925078388, 2162078206, 2614888103, 3248222580, 3835390401, 4022224774, 264347078, 604807628, 770255983, 1249150122, 1555081692, 1996064986, 2554220882, 2821834349, 2952996808, 3210313671, 3336571891, 3584528711, 113926993, 338241895, 666307205, 773529912, 1294757372, 1396182291, 1695183700, 1986661051, 2177026350, 2456956037, 2730485921, 2820302411, 3259730800, 3345764771, 3516065817, 3600352804, 4094571909, 275423344, 430227734, 506948616, 659060556, 883997877, 958139571, 1322822218, 1537002063, 1747873779, 1955562222, 2024104815, 2227730452, 2361852424, 2428436474, 2756734187, 3204031479, 3329325298], rfl⟩ : Ar 64)
theorem WC {w : Nat} {o : (Ar 64)} (h : aH) (m : NS w = some o) :
 aP Tryz.prog 144 [] h (fun r h' => r = .agg (cS o) ∧ h' = h) := by
 refine fW 2 [.cell 0 181] Tryz.func144 rfl rfl rfl rfl ?_
 unfold NS at m
 refine v ?_
 refine ve fun u => bE (cS (OA 64)) u GL rfl rfl fun k2 K3 => qk K3 rfl ?_
 refine v (vn (fun _ => xJ [1116352408, 1899447441, 3049323471, 3921009573, 961987163, 1508970993, 2453635748, 2870763221, 3624381080, 310598401, 607225278, 1426881987, 1925078388, 2162078206, 2614888103, 3248222580, 3835390401, 4022224774, 264347078, 604807628, 770255983, 1249150122, 1555081692, 1996064986, 2554220882, 2821834349, 2952996808, 3210313671, 3336571891, 3584528711, 113926993, 338241895, 666307205, 773529912, 1294757372, 1396182291, 1695183700, 1986661051, 2177026350, 2456956037, 2730485921, 2820302411, 3259730800, 3345764771, 3516065817, 3600352804, 4094571909, 275423344, 430227734, 506948616, 659060556, 883997877, 958139571, 1322822218, 1537002063, 1747873779, 1955562222, 2024104815, 2227730452, 2361852424, 2428436474, 2756734187, 3204031479, 3329325298] rfl MI rfl rfl rfl) ?_)
 refine ve fun u => aL 0 (cS (⟨[1116352408, 1899447441, 3049323471, 3921009573, 961987163, 1508970993, 2453635748, 2870763221, 3624381080, 310598401, 607225278, 1426881987, 1925078388, 2162078206, 2614888103, 3248222580, 3835390401, 4022224774, 264347078, 604807628, 770255983, 1249150122, 1555081692, 1996064986, 2554220882, 2821834349, 2952996808, 3210313671, 3336571891, 3584528711, 113926993, 338241895, 666307205, 773529912, 1294757372, 1396182291, 1695183700, 1986661051, 2177026350, 2456956037, 2730485921, 2820302411, 3259730800, 3345764771, 3516065817, 3600352804, 4094571909, 275423344, 430227734, 506948616, 659060556, 883997877, 958139571, 1322822218, 1537002063, 1747873779, 1955562222, 2024104815, 2227730452, 2361852424, 2428436474, 2756734187, 3204031479, 3329325298], rfl⟩ : Ar 64)) u rfl rfl rfl rfl J9 rfl rfl fun K6 => qk K6 rfl ?_
 refine v ?_
 cases m
 exact vr fun u => dY.of1 (.inl rfl) (n3 (.agg (cS (⟨[1116352408, 1899447441, 3049323471, 3921009573, 961987163, 1508970993, 2453635748, 2870763221, 3624381080, 310598401, 607225278, 1426881987, 1925078388, 2162078206, 2614888103, 3248222580, 3835390401, 4022224774, 264347078, 604807628, 770255983, 1249150122, 1555081692, 1996064986, 2554220882, 2821834349, 2952996808, 3210313671, 3336571891, 3584528711, 113926993, 338241895, 666307205, 773529912, 1294757372, 1396182291, 1695183700, 1986661051, 2177026350, 2456956037, 2730485921, 2820302411, 3259730800, 3345764771, 3516065817, 3600352804, 4094571909, 275423344, 430227734, 506948616, 659060556, 883997877, 958139571, 1322822218, 1537002063, 1747873779, 1955562222, 2024104815, 2227730452, 2361852424, 2428436474, 2756734187, 3204031479, 3329325298], rfl⟩ : Ar 64))) PU rfl (bB 0 u rfl) rfl) (aV (List.nil_sublist _) u).1 (aX.refl _ _) ⟨rfl, rfl⟩
theorem R7 : aU Tryz.prog 144 = true := by kernel_rfl
def sB (m : Nat) (q0 : List Int) : Option (Lp ((List Int)) ((List Int))) :=
 if (((IntKind.wrap .i64 ((q0.length : Int) + 8)).tmod 64) != 0) = true then ((app q0 ([0] : List Int)).bind fun z0 => some (.go z0)) else some (.brk q0)
def sC (m : Nat) (p0 : List Int) (q0 : List Int) (q1 : Int) : Option (Lp ((List Int) × Int) ((List Int))) :=
 if (decide (0 ≤ q1)) = true then (grd (decide (0 ≤ (IntKind.wrap .u64 (8 * (IntKind.wrap .u64 q1))))) <| (app q0 ([IntKind.wrap .u8 ((IntKind.wrap .u64 ((IntKind.wrap .u64 (p0.length : Int)) * 8)).fdiv (2 ^ (min ((IntKind.wrap .u64 (8 * (IntKind.wrap .u64 q1))) : Int).toNat (IntKind.bits .u64))))] : List Int)).bind fun z0 => some (.go (z0, IntKind.wrap .i64 (q1 - 1)))) else some (.brk (q0, q1))
def HU (m : Nat) (p0 : List Int) : Option ((List Int)) :=
 (app ([] : List Int) p0).bind fun z4 => (app z4 ([128] : List Int)).bind fun z0 => after (aY (fun s => sB m s) m z0) fun r0 => after (aY (fun s => sC m p0 s.1 s.2) m (r0, 7)) fun ⟨r1, r2⟩ => some r1
theorem WD {w : Nat} {p0 : List Int} {o : (List Int)} (h : aH) (m : HU w p0 = some o) :
 aP Tryz.prog 145 [.sl none 1 (List.map cZ p0)] h (fun r h' => r = .sl none 1 (List.map cZ o) ∧ h' = h) := by
 refine fW 37 [.tmp 2] Tryz.func145 rfl rfl rfl rfl ?_
 unfold HU at m
 refine v (v (v ?_))
 obtain ⟨z4, Z5, m⟩ := aC m
 refine ve fun u => lY (c := cZ) Z5 hU rfl rfl u nofun rfl fun tg6 t7 K8 => qk K8 rfl ?_
 refine vn (fun _ => eH (List.map cZ ([128] : List Int)) hU rfl rfl rfl rfl) ?_
 obtain ⟨z0, Z0, m⟩ := aC m
 refine ve fun u => eS (c := cZ) 0 Z0 hU rfl rfl rfl t7 u rfl fun tg0 t0 K0 => qk K0 rfl ?_
 refine vs ?_
 refine lT m (σ := (List Int)) (τ := Option bZ) (fun g s => [(g, .tok 5 1 ((s : List Int).length * 1))]) (fun g s => (g = none → s = [])) (fun g s => .c 0 (.sl none 1 (List.map cZ p0)) (.c 3 (ow g 1 (List.map cZ s)) .nil)) tg0 t0 (lx (.k2 .nil)) ?_ ?_
 rintro tg1 q0 x t1 m
 replace m : sB w q0 = some x := m
 unfold sB at m
 refine v (vn (fun _ => qC jJ t1 rfl) (v ?_))
 refine vi m (fun c0 m => ?_) fun c0 m => ?_
 refine v (v (v (vn (fun _ => eH (List.map cZ ([0] : List Int)) hU rfl rfl rfl rfl) ?_)))
 obtain ⟨z1, Z1, m⟩ := aC m
 refine ve fun u => eS (c := cZ) 0 Z1 hU rfl rfl rfl t1 u rfl fun tg2 t2 K1 => qk K1 rfl ?_
 exact fH m tg2 t2 (lx (.k2 .nil))
 refine v ?_
 exact lD m tg1 t1 (lx (.k2 .nil))
 rintro tg3 r0 t3 m
 refine v (dH jJ rfl (v ?_))
 refine lT m (σ := (List Int) × Int) (τ := Option bZ) (fun g s => [(g, .tok 5 1 ((s.1 : List Int).length * 1))]) (fun g s => (g = none → s.1 = [])) (fun g s => .c 3 (ow g 1 (List.map cZ s.1)) (.c 4 (.sc (.int .u64 (IntKind.wrap .u64 ((IntKind.wrap .u64 (p0.length : Int)) * 8)))) (.c 5 (nZ s.2) .nil))) tg3 t3 (lx (.k3 .nil)) ?_ ?_
 rintro tg4 ⟨q1, q2⟩ x t4 m
 replace m : sC w p0 q1 q2 = some x := m
 unfold sC at m
 refine v (v ?_)
 refine vi m (fun c1 m => ?_) fun c1 m => ?_
 refine v (v (v ?_))
 refine J7 m fun _ m => ?_
 refine vn (fun _ => eH (List.map cZ ([IntKind.wrap .u8 ((IntKind.wrap .u64 ((IntKind.wrap .u64 (p0.length : Int)) * 8)).fdiv (2 ^ (min ((IntKind.wrap .u64 (8 * (IntKind.wrap .u64 q2))) : Int).toNat (IntKind.bits .u64))))] : List Int)) hU rfl rfl rfl rfl) ?_
 obtain ⟨z2, Z2, m⟩ := aC m
 refine ve fun u => eS (c := cZ) 0 Z2 hU rfl rfl rfl t4 u rfl fun tg5 t5 K2 => qk K2 rfl ?_
 refine v ?_
 exact fH m tg5 t5 (lx (.k3 .nil))
 refine v ?_
 exact lD m tg4 t4 (lx (.k3 .nil))
 rintro tg7 ⟨r1, r2⟩ t6 m
 refine v (v ?_)
 injection m with m; subst m
 exact vr fun u => dY.of1 (.inl rfl) (fL _ _ (ow _ _ _) rfl) (aV (List.nil_sublist _) u).1 ((eG _ 0 t6 u rfl)) ⟨rfl, rfl⟩
theorem R8 : aU Tryz.prog 145 = true := by kernel_rfl
def pW (m : Nat) (p0 : Int) (p1 : Int) : Option (Int) :=
 grd (decide (0 ≤ p1)) <| grd (decide (0 ≤ (IntKind.wrap .u64 (32 - p1)))) <| some (bW .or .u32 (p0.fdiv (2 ^ (min (p1 : Int).toNat (IntKind.bits .u32)))) (IntKind.wrap .u32 (p0 * 2 ^ (min ((IntKind.wrap .u64 (32 - p1)) : Int).toNat (IntKind.bits .u32)))))
theorem vF {u : Nat} {p0 : Int} {p1 : Int} {o : Int} (h : aH) (m : pW u p0 p1 = some o) :
 aP Tryz.prog 146 [.sc (.int .u32 p0), .sc (.int .u64 p1)] h (fun r h' => r = .sc (.int .u32 o) ∧ h' = h) := by
 refine fW 13 [.tmp 4] Tryz.func146 rfl rfl rfl rfl ?_
 unfold pW at m
 refine v (v ?_)
 refine J7 m fun _ m => ?_
 refine J7 m fun _ m => ?_
 refine v ?_
 cases m
 exact eM rfl
theorem n6 : aU Tryz.prog 146 = true := by kernel_rfl
def yR (m : Nat) (y0 : (List Int)) (q0 : Int) (q1 : Int) (q2 : Ar 64) (q3 : Int) : Option (Lp ((Ar 64) × Int) (Lp ((Ar 64)) (Lp ((Ar 64) × Int) (Lp ((Ar 8) × Int) (bP))))) :=
 if (decide (q3 < 4)) = true then ((ix q2.1 q1).bind fun x0 => (ix y0 (IntKind.wrap .i64 ((IntKind.wrap .i64 (q0 + (IntKind.wrap .i64 (4 * q1)))) + q3))).bind fun x1 => (ix q2.1 q1).bind fun _ => some (.go (J6 q2 q1.toNat (bW .or .u32 (IntKind.wrap .u32 (x0 * 2 ^ (min (8 : Int).toNat (IntKind.bits .u32)))) (IntKind.wrap .u32 x1)), IntKind.wrap .i64 (q3 + 1)))) else some (.brk (q2, q3))
def yS (m : Nat) (y0 : (List Int)) (q0 : Int) (q1 : Ar 64) (q2 : Int) : Option (Lp ((Ar 64) × Int) (Lp ((Ar 8) × Int) (bP))) :=
 if (decide (q2 < 64)) = true then (after (if (decide (q2 < 16)) = true then (after (aY (fun s => yR m y0 q0 q2 s.1 s.2) m (q1, 0)) fun ⟨r0, r1⟩ => some (.brk r0)) else (ix q1.1 (IntKind.wrap .i64 (q2 - 15))).bind fun x0 => (ix q1.1 (IntKind.wrap .i64 (q2 - 2))).bind fun x1 => (ix q1.1 (IntKind.wrap .i64 (q2 - 16))).bind fun x2 => (ix q1.1 (IntKind.wrap .i64 (q2 - 7))).bind fun x3 => (pW m x0 7).bind fun y1 => (pW m x0 18).bind fun y2 => (pW m x1 17).bind fun y3 => (pW m x1 19).bind fun y4 => (ix q1.1 q2).bind fun _ => some (.brk (J6 q1 q2.toNat (IntKind.wrap .u32 ((IntKind.wrap .u32 ((IntKind.wrap .u32 (x2 + x3)) + (bW .xor .u32 (bW .xor .u32 y1 y2) (x0.fdiv (2 ^ (min (3 : Int).toNat (IntKind.bits .u32))))))) + (bW .xor .u32 (bW .xor .u32 y3 y4) (x1.fdiv (2 ^ (min (10 : Int).toNat (IntKind.bits .u32))))))))) : Option (Lp ((Ar 64)) (Lp ((Ar 64) × Int) (Lp ((Ar 8) × Int) (bP))))) fun j0 => some (.go (j0, IntKind.wrap .i64 (q2 + 1)))) else some (.brk (q1, q2))
def yT (m : Nat) (y6 : (Ar 64)) (r0 : Ar 64) (q0 : Ar 8) (q1 : Int) : Option (Lp ((Ar 8) × Int) (Lp ((Ar 8) × Int) (bP))) :=
 if (decide (q1 < 64)) = true then ((ix q0.1 0).bind fun x0 => (ix q0.1 4).bind fun x1 => (ix q0.1 7).bind fun x2 => (pW m x1 6).bind fun y0 => (pW m x1 11).bind fun y1 => (pW m x1 25).bind fun y2 => (ix q0.1 5).bind fun x3 => (ix q0.1 6).bind fun x4 => (ix y6.1 q1).bind fun x5 => (ix r0.1 q1).bind fun x6 => (pW m x0 2).bind fun y3 => (pW m x0 13).bind fun y4 => (pW m x0 22).bind fun y5 => (ix q0.1 1).bind fun x7 => (ix q0.1 2).bind fun x8 => (ix q0.1 1).bind fun x9 => (ix q0.1 2).bind fun x10 => (ix q0.1 0).bind fun x11 => (ix q0.1 1).bind fun x12 => (ix q0.1 2).bind fun x13 => (ix q0.1 3).bind fun x14 => (ix q0.1 4).bind fun x15 => (ix q0.1 5).bind fun x16 => (ix q0.1 6).bind fun x17 => some (.go ((⟨[IntKind.wrap .u32 ((IntKind.wrap .u32 ((IntKind.wrap .u32 ((IntKind.wrap .u32 ((IntKind.wrap .u32 (x2 + (bW .xor .u32 (bW .xor .u32 y0 y1) y2))) + (bW .xor .u32 (bW .and .u32 x1 x3) (bW .and .u32 (bW .xor .u32 (IntKind.max .u32) x1) x4)))) + x5)) + x6)) + (IntKind.wrap .u32 ((bW .xor .u32 (bW .xor .u32 y3 y4) y5) + (bW .xor .u32 (bW .xor .u32 (bW .and .u32 x0 x7) (bW .and .u32 x0 x8)) (bW .and .u32 x9 x10))))), x11, x12, x13, IntKind.wrap .u32 (x14 + (IntKind.wrap .u32 ((IntKind.wrap .u32 ((IntKind.wrap .u32 ((IntKind.wrap .u32 (x2 + (bW .xor .u32 (bW .xor .u32 y0 y1) y2))) + (bW .xor .u32 (bW .and .u32 x1 x3) (bW .and .u32 (bW .xor .u32 (IntKind.max .u32) x1) x4)))) + x5)) + x6))), x15, x16, x17], rfl⟩ : Ar 8), IntKind.wrap .i64 (q1 + 1)))) else some (.brk (q0, q1))
def yU (m : Nat) (r0 : Ar 8) (q0 : Ar 8) (q1 : Int) : Option (Lp ((Ar 8) × Int) (Lp ((Ar 8) × Int) (bP))) :=
 if (decide (q1 < 8)) = true then ((ix q0.1 q1).bind fun x0 => (ix r0.1 q1).bind fun x1 => (ix q0.1 q1).bind fun _ => some (.go (J6 q0 q1.toNat (IntKind.wrap .u32 (x0 + x1)), IntKind.wrap .i64 (q1 + 1)))) else some (.brk (q0, q1))
def yV (m : Nat) (y6 : (Ar 64)) (y0 : (List Int)) (q0 : Ar 8) (q1 : Int) : Option (Lp ((Ar 8) × Int) (bP)) :=
 if (decide (q1 < (y0.length : Int))) = true then (after (aY (fun s => yS m y0 q1 s.1 s.2) m ((OA 64), 0)) fun ⟨r0, r1⟩ => after (aY (fun s => yT m y6 r0 s.1 s.2) m (q0, 0)) fun ⟨r2, r3⟩ => after (aY (fun s => yU m r2 s.1 s.2) m (q0, 0)) fun ⟨r4, r5⟩ => some (.go (r4, IntKind.wrap .i64 (q1 + 64)))) else some (.brk (q0, q1))
def sD (m : Nat) (r0 : Ar 8) (q0 : bP) (q1 : Int) : Option (Lp (bP × Int) (bP)) :=
 if (decide (q1 < 32)) = true then ((ix r0.1 (IntKind.wrap .i64 (q1.tdiv 4))).bind fun x0 => grd (decide (0 ≤ (IntKind.wrap .u64 (IntKind.wrap .i64 (24 - (IntKind.wrap .i64 (8 * (q1.tmod 4)))))))) <| (ix q0.1 q1).bind fun _ => some (.go (J6 q0 q1.toNat (IntKind.wrap .u8 (x0.fdiv (2 ^ (min ((IntKind.wrap .u64 (IntKind.wrap .i64 (24 - (IntKind.wrap .i64 (8 * (q1.tmod 4)))))) : Int).toNat (IntKind.bits .u32))))), IntKind.wrap .i64 (q1 + 1)))) else some (.brk (q0, q1))
def OL (m : Nat) (p0 : List Int) : Option (bP) :=
 (NS m).bind fun y6 => (HU m p0).bind fun y0 => after (aY (fun s => yV m y6 y0 s.1 s.2) m ((⟨[1779033703, 3144134277, 1013904242, 2773480762, 1359893119, 2600822924, 528734635, 1541459225], rfl⟩ : Ar 8), 0)) fun ⟨r0, r1⟩ => after (aY (fun s => sD m r0 s.1 s.2) m (iY, 0)) fun ⟨r2, r3⟩ => some r2
theorem YE {w : Nat} {p0 : List Int} {o : bP} (h : aH) (m : OL w p0 = some o) :
 aP Tryz.prog 87 [.sl none 1 (List.map cZ p0)] h (fun r h' => r = .agg (bF o) ∧ h' = h) := by
 refine fW 208 [.cell 2 36] Tryz.func87 rfl rfl rfl rfl ?_
 unfold OL at m
 refine v ?_
 refine ve fun u => bE (bF iY) u EH rfl rfl fun k2 K3 => qk K3 rfl ?_
 refine v ?_
 refine vk WC R7 m rfl rfl fun y6 m => ?_
 refine ve fun u => bE (cS (OA 64)) u GL rfl rfl fun k8 K9 => qk K9 rfl ?_
 refine ve fun u => aL 0 (cS y6) u rfl rfl rfl rfl J9 rfl rfl fun K0 => qk K0 rfl ?_
 refine v (vn (fun _ => xJ [1779033703, 3144134277, 1013904242, 2773480762, 1359893119, 2600822924, 528734635, 1541459225] rfl GO rfl rfl rfl) ?_)
 refine ve fun u => bE (dQ (OA 8)) u KA rfl rfl fun k13 K1 => qk K1 rfl ?_
 refine ve fun u => aL 0 (dQ (⟨[1779033703, 3144134277, 1013904242, 2773480762, 1359893119, 2600822924, 528734635, 1541459225], rfl⟩ : Ar 8)) u rfl rfl rfl rfl GM rfl rfl fun K2 => qk K2 rfl ?_
 refine v ?_
 refine vk WD R8 m rfl rfl fun y0 m => ?_
 refine v ?_
 refine eO m (σ := (Ar 8) × Int) (τ := Unit) (fun g s => [(some k13, .obj 183 (dQ s.1)), (some k8, .obj 181 (cS y6)), (some k2, .obj 36 (bF iY))]) (fun g s => .c 2 (.ptr k2 0) (.c 3 (.ptr k8 0) (.c 4 (.ptr k13 0) (.c 5 (.sl none 1 (List.map cZ y0)) (.c 6 (nZ s.2) .nil))))) () (lx (.k5 .nil)) ?_ ?_
 rintro _ ⟨q0, q1⟩ x m
 replace m : yV w y6 y0 q0 q1 = some x := m
 unfold yV at m
 refine v (dH jJ rfl (v ?_))
 refine vi m (fun c0 m => ?_) fun c0 m => ?_
 refine v (v (v ?_))
 refine ve fun u => bE (cS (OA 64)) u GL rfl rfl fun k1783 K4 => qk K4 rfl ?_
 refine v ?_
 refine eO m (σ := (Ar 64) × Int) (τ := Unit) (fun g s => [(some k1783, .obj 181 (cS s.1)), (some k13, .obj 183 (dQ q0)), (some k8, .obj 181 (cS y6)), (some k2, .obj 36 (bF iY))]) (fun g s => .c 2 (.ptr k2 0) (.c 3 (.ptr k8 0) (.c 4 (.ptr k13 0) (.c 5 (.sl none 1 (List.map cZ y0)) (.c 6 (nZ q1) (.c 7 (.ptr k1783 0) (.c 8 (nZ s.2) .nil))))))) () (lx (.k7 .nil)) ?_ ?_
 rintro _ ⟨q2, q3⟩ x m
 replace m : yS w y0 q1 q2 q3 = some x := m
 unfold yS at m
 refine v (v ?_)
 refine vi m (fun c1 m => ?_) fun c1 m => ?_
 refine v (vs ?_)
 refine cW m (σ := (Ar 64)) (τ := Unit) (fun g s => [(some k1783, .obj 181 (cS s)), (some k13, .obj 183 (dQ q0)), (some k8, .obj 181 (cS y6)), (some k2, .obj 36 (bF iY))]) (fun g s => .c 2 (.ptr k2 0) (.c 3 (.ptr k8 0) (.c 4 (.ptr k13 0) (.c 5 (.sl none 1 (List.map cZ y0)) (.c 6 (nZ q1) (.c 7 (.ptr k1783 0) (.c 8 (nZ q3) .nil))))))) (fun x m => ?_) ?_
 refine v (v (v ?_))
 refine vi m (fun c2 m => ?_) fun c2 m => ?_
 refine v ?_
 refine eO m (σ := (Ar 64) × Int) (τ := Unit) (fun g s => [(some k1783, .obj 181 (cS s.1)), (some k13, .obj 183 (dQ q0)), (some k8, .obj 181 (cS y6)), (some k2, .obj 36 (bF iY))]) (fun g s => .c 2 (.ptr k2 0) (.c 3 (.ptr k8 0) (.c 4 (.ptr k13 0) (.c 5 (.sl none 1 (List.map cZ y0)) (.c 6 (nZ q1) (.c 7 (.ptr k1783 0) (.c 8 (nZ q3) (.c 9 (nZ s.2) .nil)))))))) () (lx (.k8 .nil)) ?_ ?_
 rintro _ ⟨q4, q5⟩ x m
 replace m : yR w y0 q1 q3 q4 q5 = some x := m
 unfold yR at m
 refine v (v ?_)
 refine vi m (fun c3 m => ?_) fun c3 m => ?_
 refine v (v (v ?_))
 refine vz [(17, some k1783, .obj 181 (cS q4))] mixed (fun u => ⟨fun _ => aO 0 u rfl, trivial⟩) fun u => ?_
 refine aM 0 rfl (fun _ _ _ _ => bN (.sc (.int _ _)) rfl) ?_
 refine aM 1 rfl (fun _ _ _ _ => bN (.sc (.int _ _)) rfl) ?_
 obtain ⟨x0, X0, m⟩ := aC m
 refine aM 2 rfl (fun _ _ _ _ => dO (y := q4) X0 pB rfl rfl) ?_
 refine aM 3 rfl (fun _ _ hi hB => dZ (y := q4) 0 X0 gD rfl (At.s (bR.get 0 hi rfl (hB 17 (by kernel_rfl)))) (eA _)) ?_
 refine aM 4 rfl (fun _ _ _ _ => LG rfl rfl rfl (by decide)) ?_
 refine aM 5 rfl (fun _ _ _ _ => bN (.sl _ _ _) rfl) ?_
 refine aM 6 rfl (fun _ _ _ _ => bN (.sc (.int _ _)) rfl) ?_
 refine aM 7 rfl (fun _ _ _ _ => bN (.sc (.int _ _)) rfl) ?_
 refine aM 8 rfl (fun _ _ _ _ => lJ rfl rfl rfl trivial) ?_
 refine aM 9 rfl (fun _ _ _ _ => lJ rfl rfl rfl trivial) ?_
 refine aM 10 rfl (fun _ _ _ _ => bN (.sc (.int _ _)) rfl) ?_
 refine aM 11 rfl (fun _ _ _ _ => lJ rfl rfl rfl trivial) ?_
 obtain ⟨x1, X1, m⟩ := aC m
 refine aM 12 rfl (fun _ _ _ _ => mL X1 F7 rfl rfl) ?_
 refine aM 13 rfl (fun _ _ _ _ => mW (.sc (.int .u8 x1)) B9 rfl rfl) ?_
 refine aM 14 rfl (fun _ _ _ _ => EA TK PT rfl) ?_
 refine aM 15 rfl (fun _ _ _ _ => lJ rfl rfl rfl trivial) ?_
 obtain ⟨_, X2, m⟩ := aC m
 refine aM 16 rfl (fun _ _ _ _ => dO (y := q4) X2 pB rfl rfl) ?_
 refine eX 17 rfl (by kernel_rfl) (rO (y := q4) (v := bW .or .u32 (IntKind.wrap .u32 (x0 * 2 ^ (min (8 : Int).toNat (IntKind.bits .u32)))) (IntKind.wrap .u32 x1)) 0 u X2 rfl rfl rfl GK fun K5 => ⟨⟨fun e => absurd e (by decide), trivial⟩, ?_⟩)
 refine dL (by kernel_rfl) (qk (f := .c 57 _ (.c 56 _ (.c 55 _ (.c 54 _ (.c 53 _ (.c 52 _ (.c 51 _ (.c 50 _ (.c 49 _ (.c 48 _ (.c 47 _ (.c 46 _ (.c 45 _ (.c 44 _ (.c 43 _ (.c 42 _ (.c 41 _ _))))))))))))))))) K5 rfl ?_)
 refine v ?_
 exact bD m (lx (.k8 .nil))
 refine v ?_
 exact iS m (lx (.k8 .nil))
 rintro _ ⟨r0, r1⟩ m
 refine v ?_
 exact bD m (lx (.k7 .nil))
 refine v (v (vq (by kernel_rfl) ?_))
 obtain ⟨x2, X3, m⟩ := aC m
 refine vn (fun _ => dO (y := q2) X3 pB rfl rfl) (vn (fun u => dZ (y := q2) 0 X3 gD rfl (bB 0 u rfl) (eA _)) ?_)
 obtain ⟨x3, X4, m⟩ := aC m
 refine vn (fun _ => dO (y := q2) X4 pB rfl rfl) (vn (fun u => dZ (y := q2) 0 X4 gD rfl (bB 0 u rfl) (eA _)) (v ?_))
 refine vz [(29, some k1783, .obj 181 (cS q2))] mixed (fun u => ⟨fun _ => aO 0 u rfl, trivial⟩) fun u => ?_
 refine aM 0 rfl (fun _ _ _ _ => bN (.sc (.int _ _)) rfl) ?_
 refine aM 1 rfl (fun _ _ _ _ => bN (.sc (.int _ _)) rfl) ?_
 refine aM 2 rfl (fun _ _ _ _ => lJ rfl rfl rfl trivial) ?_
 obtain ⟨x4, X5, m⟩ := aC m
 refine aM 3 rfl (fun _ _ _ _ => dO (y := q2) X5 pB rfl rfl) ?_
 refine aM 4 rfl (fun _ _ hi hB => dZ (y := q2) 0 X5 gD rfl (At.s (bR.get 0 hi rfl (hB 29 (by kernel_rfl)))) (eA _)) ?_
 refine aM 5 rfl (fun _ _ _ _ => bN (.sc (.int _ _)) rfl) ?_
 refine aM 6 rfl (fun _ _ _ _ => lJ rfl rfl rfl trivial) ?_
 obtain ⟨x5, X6, m⟩ := aC m
 refine aM 7 rfl (fun _ _ _ _ => dO (y := q2) X6 pB rfl rfl) ?_
 refine aM 8 rfl (fun _ _ hi hB => dZ (y := q2) 0 X6 gD rfl (At.s (bR.get 0 hi rfl (hB 29 (by kernel_rfl)))) (eA _)) ?_
 refine aM 9 rfl (fun _ _ _ _ => lJ rfl rfl rfl trivial) ?_
 refine aM 10 rfl (fun _ _ _ _ => bN (.sc (.int _ _)) rfl) ?_
 obtain ⟨y1, Y0, m⟩ := aC m
 refine aM 11 rfl (fun _ _ _ _ => cE (vF _ Y0) rfl n6 rfl) ?_
 refine aM 12 rfl (fun _ _ _ _ => bN (.sc (.int _ _)) rfl) ?_
 obtain ⟨y2, Y1, m⟩ := aC m
 refine aM 13 rfl (fun _ _ _ _ => cE (vF _ Y1) rfl n6 rfl) ?_
 refine aM 14 rfl (fun _ _ _ _ => lJ rfl rfl rfl trivial) ?_
 refine aM 15 rfl (fun _ _ _ _ => bN (.sc (.int _ _)) rfl) ?_
 refine aM 16 rfl (fun _ _ _ _ => LG rfl rfl rfl (by decide)) ?_
 refine aM 17 rfl (fun _ _ _ _ => lJ rfl rfl rfl trivial) ?_
 refine aM 18 rfl (fun _ _ _ _ => lJ rfl rfl rfl trivial) ?_
 refine aM 19 rfl (fun _ _ _ _ => bN (.sc (.int _ _)) rfl) ?_
 obtain ⟨y3, Y2, m⟩ := aC m
 refine aM 20 rfl (fun _ _ _ _ => cE (vF _ Y2) rfl n6 rfl) ?_
 refine aM 21 rfl (fun _ _ _ _ => bN (.sc (.int _ _)) rfl) ?_
 obtain ⟨y4, Y3, m⟩ := aC m
 refine aM 22 rfl (fun _ _ _ _ => cE (vF _ Y3) rfl n6 rfl) ?_
 refine aM 23 rfl (fun _ _ _ _ => lJ rfl rfl rfl trivial) ?_
 refine aM 24 rfl (fun _ _ _ _ => bN (.sc (.int _ _)) rfl) ?_
 refine aM 25 rfl (fun _ _ _ _ => LG rfl rfl rfl (by decide)) ?_
 refine aM 26 rfl (fun _ _ _ _ => lJ rfl rfl rfl trivial) ?_
 refine aM 27 rfl (fun _ _ _ _ => lJ rfl rfl rfl trivial) ?_
 obtain ⟨_, X7, m⟩ := aC m
 refine aM 28 rfl (fun _ _ _ _ => dO (y := q2) X7 pB rfl rfl) ?_
 refine eX 29 rfl (by kernel_rfl) (rO (y := q2) (v := IntKind.wrap .u32 ((IntKind.wrap .u32 ((IntKind.wrap .u32 (x4 + x5)) + (bW .xor .u32 (bW .xor .u32 y1 y2) (x2.fdiv (2 ^ (min (3 : Int).toNat (IntKind.bits .u32))))))) + (bW .xor .u32 (bW .xor .u32 y3 y4) (x3.fdiv (2 ^ (min (10 : Int).toNat (IntKind.bits .u32))))))) 0 u X7 rfl rfl rfl GK fun K6 => ⟨⟨fun e => absurd e (by decide), trivial⟩, ?_⟩)
 refine dL (by kernel_rfl) (qk (f := .c 94 _ (.c 93 _ (.c 92 _ (.c 91 _ (.c 90 _ (.c 89 _ (.c 88 _ (.c 87 _ (.c 86 _ (.c 85 _ (.c 84 _ (.c 83 _ (.c 82 _ (.c 81 _ (.c 80 _ (.c 79 _ (.c 78 _ (.c 77 _ (.c 76 _ (.c 75 _ (.c 74 _ (.c 73 _ (.c 72 _ (.c 71 _ (.c 70 _ (.c 69 _ (.c 68 _ (.c 67 _ (.c 66 _ _))))))))))))))))))))))))))))) K6 rfl ?_)
 exact bD m (lx (.k7 .nil))
 rintro _ j0 m
 refine v ?_
 exact bD m (lx (.k7 .nil))
 refine v ?_
 exact iS m (lx (.k7 .nil))
 rintro _ ⟨r2, r3⟩ m
 refine v (vl 1 (.agg (dQ q0)) PW rfl rfl rfl ?_)
 refine ve fun u => bE (dQ (OA 8)) u KA rfl rfl fun k2413 K7 => qk K7 rfl ?_
 refine ve fun u => aL 0 (dQ q0) u rfl rfl rfl rfl GM rfl rfl fun K8 => qk K8 rfl ?_
 refine v ?_
 refine eO m (σ := (Ar 8) × Int) (τ := Unit) (fun g s => [(some k2413, .obj 183 (dQ s.1)), (some k1783, .obj 181 (cS r2)), (some k13, .obj 183 (dQ q0)), (some k8, .obj 181 (cS y6)), (some k2, .obj 36 (bF iY))]) (fun g s => .c 2 (.ptr k2 0) (.c 3 (.ptr k8 0) (.c 4 (.ptr k13 0) (.c 5 (.sl none 1 (List.map cZ y0)) (.c 6 (nZ q1) (.c 7 (.ptr k1783 0) (.c 12 (.ptr k2413 0) (.c 13 (nZ s.2) .nil)))))))) () (lx (.k8 .nil)) ?_ ?_
 rintro _ ⟨q6, q7⟩ x m
 replace m : yT w y6 r2 q6 q7 = some x := m
 unfold yT at m
 refine v (v ?_)
 refine vi m (fun c4 m => ?_) fun c4 m => ?_
 refine v (v (v (vq (by kernel_rfl) ?_)))
 obtain ⟨x6, X8, m⟩ := aC m
 refine vn (fun _ => dO (y := q6) X8 iN rfl rfl) (vn (fun u => dZ (y := q6) 0 X8 gD rfl (bB 0 u rfl) (eA _)) ?_)
 obtain ⟨x7, X9, m⟩ := aC m
 refine vn (fun _ => dO (y := q6) X9 iN rfl rfl) (vn (fun u => dZ (y := q6) 0 X9 gD rfl (bB 0 u rfl) (eA _)) (v (vq (by kernel_rfl) ?_)))
 obtain ⟨x8, X10, m⟩ := aC m
 refine vn (fun _ => dO (y := q6) X10 iN rfl rfl) (vn (fun u => dZ (y := q6) 0 X10 gD rfl (bB 0 u rfl) (eA _)) ?_)
 refine vk vF n6 m rfl rfl fun y5 m => ?_
 refine vk vF n6 m rfl rfl fun y7 m => ?_
 refine vk vF n6 m rfl rfl fun y8 m => ?_
 obtain ⟨x9, X11, m⟩ := aC m
 refine vn (fun _ => dO (y := q6) X11 iN rfl rfl) (vn (fun u => dZ (y := q6) 0 X11 gD rfl (bB 0 u rfl) (eA _)) (vn (fun _ => PG rfl rfl) ?_))
 obtain ⟨x10, X12, m⟩ := aC m
 refine vn (fun _ => dO (y := q6) X12 iN rfl rfl) (vn (fun u => dZ (y := q6) 0 X12 gD rfl (bB 0 u rfl) (eA _)) ?_)
 obtain ⟨x11, X13, m⟩ := aC m
 refine vn (fun _ => dO (y := y6) X13 pB rfl rfl) (vn (fun u => dZ (y := y6) 0 X13 gD rfl (bB 3 u rfl) (eA _)) ?_)
 obtain ⟨x12, X14, m⟩ := aC m
 refine vn (fun _ => dO (y := r2) X14 pB rfl rfl) (vn (fun u => dZ (y := r2) 0 X14 gD rfl (bB 1 u rfl) (eA _)) (v (vq (by kernel_rfl) ?_)))
 refine vk vF n6 m rfl rfl fun y9 m => ?_
 refine vk vF n6 m rfl rfl fun y10 m => ?_
 refine vk vF n6 m rfl rfl fun y11 m => ?_
 obtain ⟨x13, X15, m⟩ := aC m
 refine vn (fun _ => dO (y := q6) X15 iN rfl rfl) (vn (fun u => dZ (y := q6) 0 X15 gD rfl (bB 0 u rfl) (eA _)) ?_)
 obtain ⟨x14, X16, m⟩ := aC m
 refine vn (fun _ => dO (y := q6) X16 iN rfl rfl) (vn (fun u => dZ (y := q6) 0 X16 gD rfl (bB 0 u rfl) (eA _)) ?_)
 obtain ⟨x15, X17, m⟩ := aC m
 refine vn (fun _ => dO (y := q6) X17 iN rfl rfl) (vn (fun u => dZ (y := q6) 0 X17 gD rfl (bB 0 u rfl) (eA _)) ?_)
 obtain ⟨x16, X18, m⟩ := aC m
 refine vn (fun _ => dO (y := q6) X18 iN rfl rfl) (vn (fun u => dZ (y := q6) 0 X18 gD rfl (bB 0 u rfl) (eA _)) (v ?_))
 obtain ⟨x17, X19, m⟩ := aC m
 refine vn (fun _ => dO (y := q6) X19 iN rfl rfl) (vn (fun u => dZ (y := q6) 0 X19 gD rfl (bB 0 u rfl) (eA _)) ?_)
 obtain ⟨x18, X20, m⟩ := aC m
 refine vn (fun _ => dO (y := q6) X20 iN rfl rfl) (vn (fun u => dZ (y := q6) 0 X20 gD rfl (bB 0 u rfl) (eA _)) ?_)
 obtain ⟨x19, X21, m⟩ := aC m
 refine vn (fun _ => dO (y := q6) X21 iN rfl rfl) (vn (fun u => dZ (y := q6) 0 X21 gD rfl (bB 0 u rfl) (eA _)) ?_)
 obtain ⟨x20, X22, m⟩ := aC m
 refine vn (fun _ => dO (y := q6) X22 iN rfl rfl) (vn (fun u => dZ (y := q6) 0 X22 gD rfl (bB 0 u rfl) (eA _)) ?_)
 obtain ⟨x21, X23, m⟩ := aC m
 refine vn (fun _ => dO (y := q6) X23 iN rfl rfl) (vn (fun u => dZ (y := q6) 0 X23 gD rfl (bB 0 u rfl) (eA _)) ?_)
 obtain ⟨x22, X24, m⟩ := aC m
 refine vn (fun _ => dO (y := q6) X24 iN rfl rfl) (vn (fun u => dZ (y := q6) 0 X24 gD rfl (bB 0 u rfl) (eA _)) ?_)
 obtain ⟨x23, X25, m⟩ := aC m
 refine vn (fun _ => dO (y := q6) X25 iN rfl rfl) (vn (fun u => dZ (y := q6) 0 X25 gD rfl (bB 0 u rfl) (eA _)) (vn (fun _ => xJ [IntKind.wrap .u32 ((IntKind.wrap .u32 ((IntKind.wrap .u32 ((IntKind.wrap .u32 ((IntKind.wrap .u32 (x8 + (bW .xor .u32 (bW .xor .u32 y5 y7) y8))) + (bW .xor .u32 (bW .and .u32 x7 x9) (bW .and .u32 (bW .xor .u32 (IntKind.max .u32) x7) x10)))) + x11)) + x12)) + (IntKind.wrap .u32 ((bW .xor .u32 (bW .xor .u32 y9 y10) y11) + (bW .xor .u32 (bW .xor .u32 (bW .and .u32 x6 x13) (bW .and .u32 x6 x14)) (bW .and .u32 x15 x16))))), x17, x18, x19, IntKind.wrap .u32 (x20 + (IntKind.wrap .u32 ((IntKind.wrap .u32 ((IntKind.wrap .u32 ((IntKind.wrap .u32 (x8 + (bW .xor .u32 (bW .xor .u32 y5 y7) y8))) + (bW .xor .u32 (bW .and .u32 x7 x9) (bW .and .u32 (bW .xor .u32 (IntKind.max .u32) x7) x10)))) + x11)) + x12))), x21, x22, x23] rfl GO rfl rfl rfl) ?_))
 refine ve fun u => aL 0 (dQ (⟨[IntKind.wrap .u32 ((IntKind.wrap .u32 ((IntKind.wrap .u32 ((IntKind.wrap .u32 ((IntKind.wrap .u32 (x8 + (bW .xor .u32 (bW .xor .u32 y5 y7) y8))) + (bW .xor .u32 (bW .and .u32 x7 x9) (bW .and .u32 (bW .xor .u32 (IntKind.max .u32) x7) x10)))) + x11)) + x12)) + (IntKind.wrap .u32 ((bW .xor .u32 (bW .xor .u32 y9 y10) y11) + (bW .xor .u32 (bW .xor .u32 (bW .and .u32 x6 x13) (bW .and .u32 x6 x14)) (bW .and .u32 x15 x16))))), x17, x18, x19, IntKind.wrap .u32 (x20 + (IntKind.wrap .u32 ((IntKind.wrap .u32 ((IntKind.wrap .u32 ((IntKind.wrap .u32 (x8 + (bW .xor .u32 (bW .xor .u32 y5 y7) y8))) + (bW .xor .u32 (bW .and .u32 x7 x9) (bW .and .u32 (bW .xor .u32 (IntKind.max .u32) x7) x10)))) + x11)) + x12))), x21, x22, x23], rfl⟩ : Ar 8)) u rfl rfl rfl rfl GM rfl rfl fun K10 => qk K10 rfl ?_
 refine v ?_
 exact bD m (lx (.k8 .nil))
 refine v ?_
 exact iS m (lx (.k8 .nil))
 rintro _ ⟨r4, r5⟩ m
 refine v ?_
 refine eO m (σ := (Ar 8) × Int) (τ := Unit) (fun g s => [(some k2413, .obj 183 (dQ r4)), (some k1783, .obj 181 (cS r2)), (some k13, .obj 183 (dQ s.1)), (some k8, .obj 181 (cS y6)), (some k2, .obj 36 (bF iY))]) (fun g s => .c 2 (.ptr k2 0) (.c 3 (.ptr k8 0) (.c 4 (.ptr k13 0) (.c 5 (.sl none 1 (List.map cZ y0)) (.c 6 (nZ q1) (.c 12 (.ptr k2413 0) (.c 18 (nZ s.2) .nil))))))) () (lx (.k7 .nil)) ?_ ?_
 rintro _ ⟨q8, q9⟩ x m
 replace m : yU w r4 q8 q9 = some x := m
 unfold yU at m
 refine v (v ?_)
 refine vi m (fun c5 m => ?_) fun c5 m => ?_
 refine v (v (v ?_))
 refine vz [(8, some k13, .obj 183 (dQ q8)), (1000000, some k2413, .obj 183 (dQ r4))] mixed (fun u => ⟨fun _ => aO 2 u rfl, fun _ => aO 0 u rfl, trivial⟩) fun u => ?_
 refine aM 0 rfl (fun _ _ _ _ => bN (.sc (.int _ _)) rfl) ?_
 obtain ⟨x24, X26, m⟩ := aC m
 refine aM 1 rfl (fun _ _ _ _ => dO (y := q8) X26 iN rfl rfl) ?_
 refine aM 2 rfl (fun _ _ hi hB => dZ (y := q8) 0 X26 gD rfl (At.s (bR.get 0 hi rfl (hB 8 (by kernel_rfl)))) (eA _)) ?_
 refine aM 3 rfl (fun _ _ _ _ => bN (.sc (.int _ _)) rfl) ?_
 obtain ⟨x25, X27, m⟩ := aC m
 refine aM 4 rfl (fun _ _ _ _ => dO (y := r4) X27 iN rfl rfl) ?_
 refine aM 5 rfl (fun _ _ hi hB => dZ (y := r4) 0 X27 gD rfl (At.s (bR.get 1 hi rfl (hB 1000000 (by kernel_rfl)))) (eA _)) ?_
 refine aM 6 rfl (fun _ _ _ _ => lJ rfl rfl rfl trivial) ?_
 obtain ⟨_, X28, m⟩ := aC m
 refine aM 7 rfl (fun _ _ _ _ => dO (y := q8) X28 iN rfl rfl) ?_
 refine eX 8 rfl (by kernel_rfl) (rO (y := q8) (v := IntKind.wrap .u32 (x24 + x25)) 2 u X28 rfl rfl rfl GK fun K12 => ⟨⟨fun e => absurd e (by decide), fun _ => aO 0 K12 rfl, trivial⟩, ?_⟩)
 refine dL (by kernel_rfl) (qk (f := .c 189 _ (.c 188 _ (.c 187 _ (.c 186 _ (.c 185 _ (.c 184 _ (.c 183 _ (.c 182 _ _)))))))) K12 rfl ?_)
 refine v ?_
 exact bD m (lx (.k7 .nil))
 refine v ?_
 exact iS m (lx (.k7 .nil))
 rintro _ ⟨r6, r7⟩ m
 refine v ?_
 exact bD m (kR [2, 3, 4] rfl rfl (.k5 .nil))
 refine v ?_
 exact iS m (lx (.k5 .nil))
 rintro _ ⟨r8, r9⟩ m
 refine v ?_
 refine ve fun u => bE (bF iY) u EH rfl rfl fun k2657 K13 => qk K13 rfl ?_
 refine v ?_
 refine eO m (σ := bP × Int) (τ := Unit) (fun g s => [(some k2657, .obj 36 (bF s.1)), (some k13, .obj 183 (dQ r8)), (some k8, .obj 181 (cS y6)), (some k2, .obj 36 (bF iY))]) (fun g s => .c 2 (.ptr k2 0) (.c 4 (.ptr k13 0) (.c 19 (.ptr k2657 0) (.c 20 (nZ s.2) .nil)))) () (lx (.k4 .nil)) ?_ ?_
 rintro _ ⟨q10, q11⟩ x m
 replace m : sD w r8 q10 q11 = some x := m
 unfold sD at m
 refine v (v ?_)
 refine vi m (fun c6 m => ?_) fun c6 m => ?_
 refine v (v (v ?_))
 obtain ⟨x26, X29, m⟩ := aC m
 refine vn (fun _ => dO (y := r8) X29 iN rfl rfl) (vn (fun u => dZ (y := r8) 0 X29 gD rfl (bB 1 u rfl) (eA _)) ?_)
 refine J7 m fun _ m => ?_
 obtain ⟨_, X30, m⟩ := aC m
 refine vn (fun _ => jO X30 o8 rfl rfl) ?_
 refine ve fun u => rO (y := q10) (v := IntKind.wrap .u8 (x26.fdiv (2 ^ (min ((IntKind.wrap .u64 (IntKind.wrap .i64 (24 - (IntKind.wrap .i64 (8 * (q11.tmod 4)))))) : Int).toNat (IntKind.bits .u32))))) 0 u X30 rfl rfl rfl YI fun K15 => qk K15 rfl ?_
 refine v ?_
 exact bD m (lx (.k4 .nil))
 refine v ?_
 exact iS m (lx (.k4 .nil))
 rintro _ ⟨r10, r11⟩ m
 refine v (vl 0 (.agg (bF r10)) fV rfl rfl rfl ?_)
 refine ve fun u => aL 3 (bF r10) u rfl rfl rfl rfl EF rfl rfl fun K17 => qk K17 rfl ?_
 refine v ?_
 injection m with m; subst m
 exact vr fun u => dY.of1 (.inl rfl) (n3 (.agg (bF r10)) fV rfl (bB 3 u rfl) rfl) (aV (List.nil_sublist _) u).1 (aX.refl _ _) ⟨rfl, rfl⟩
theorem R9 : aU Tryz.prog 87 = true := by kernel_rfl
end Go.Proofs.YtbbifdfldpfphaaGreat
