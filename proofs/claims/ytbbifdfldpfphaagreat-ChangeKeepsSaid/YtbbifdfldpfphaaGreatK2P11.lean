import Derived.Test.YtbbifdfldpfphaaGreatK2P10
import Derived.Test.YtbbifdfldpfphaaGreatK2P7
import Derived.Test.YtbbifdfldpfphaaGreatK2P8
import Derived.Test.YtbbifdfldpfphaaGreatK2P3
import Derived.Test.YtbbifdfldpfphaaGreatK2P5
import Derived.Test.YtbbifdfldpfphaaGreatK2P4
import Derived.Test.YtbbifdfldpfphaaGreatK2P9
set_option linter.unusedSimpArgs false
set_option linter.unusedVariables false
set_option maxHeartbeats 4000000
set_option maxRecDepth 100000
namespace Go.Proofs.YtbbifdfldpfphaaGreat
open Go.Vm
abbrev UX:=Int×Int×(List aG)×(List aA)×(List aQ)×(List aR)
def Po (r:UX):Prop:=r.1=0→Md 264 264 r.2.1 r.2.2.1 r.2.2.2.1 r.2.2.2.2.1 r.2.2.2.2.2
theorem HJ {n:Int} {x:Int×(List aG)×(List aA)×(List aQ)×(List aR)} (h:n≠0):Po (n,x):=λh0=>absurd h0 h
theorem aG2 {F:Nat} {c:aB} {d:aP} (hF:1000≤F) (ok:Ok c) (hd:J8 d):T (V1 F c d) Po:=by
  have H:=ok.md
  have H2:Md 264 264 c.Seq c.Snaps c.Chunks c.Exps c.Vols:=H.mono (by omega) (by omega)
  have c1:=ok.rg.ch
  have c2:=ok.rg.sn
  have c3:=ok.rg.ex
  have c4:=ok.rg.vo
  have dn:=hd.cn
  have di:=hd.it
  have gvol:gI d.Vol:=hd.vol
  unfold V1
  refine .after (T.mono (P:=L3 (λ_=>False) (λj=>Md 264 264 j.1 j.2.1 j.2.2.1 j.2.2.2.1 j.2.2.2.2) Po) (.ite (λ_=> ?_) λ_=> ?_) λj hj=> ?_)
  · have k1:∀b:Bool,T (after (aT (λs=>yH F d s.1 s.2) F (b,0)) λ⟨r8267,r8268⟩=>if (!r8267)=true then (some (.ret (1,c.Seq,c.Snaps,c.Chunks,c.Exps,c.Vols))) else (zM F ({ Seq:=c.Seq,Snaps:=c.Snaps,Chunks:=c.Chunks,Exps:=c.Exps,Vols:=c.Vols}:aB) d.Snap.Man.Name).bind λy8276=>if (decide (0≤y8276))=true then (some (.ret (9,c.Seq,c.Snaps,c.Chunks,c.Exps,c.Vols))) else (app c.Snaps ([d.Snap]:List aG)).bind λz8291=>after (aT (λs=>yI F d s.1 s.2) F (c.Chunks,0)) λ⟨r8375,r8376⟩=>some (.brk (IntKind.wrap .i64 (c.Seq+1),z8291,r8375,c.Exps,c.Vols)))
        (L3 (λ_=>False) (λj=>Md 264 264 j.1 j.2.1 j.2.2.1 j.2.2.2.1 j.2.2.2.2) Po):=λb=>by
      refine .loop (λs=>0≤s.2∧s.2≤d.Chunks.length) (λs=>(d.Chunks.length - s.2).toNat) (λ_=>True) (by simp; omega) (by simp) (λs hs=> ?_) (λs _=> ?_)
      · obtain⟨b,i⟩:=s
        simp only at hs
        unfold yH
        refine .ite (λhc=> ?_) λ_=>.brk trivial
        have hc:=of_decide_eq_true hc
        simp only at hc
        rw[wr (n:=i+1) (by omega) (by omega)]
        refine .after (.ite (λ_=>.ix (by omega) (by omega) λx _ _=>.ite (λ_=>.ix (by omega) (by omega) λy _ _=>.brk (.go (by first | omega | (simp only; omega)))) λ_=>.brk (.go (by first | omega | (simp only; omega)))) λ_=>.brk (.go (by first | omega | (simp only; omega))))
      · obtain⟨b,i⟩:=s
        refine .ite (λ_=>.ret (HJ (by decide))) λ_=>.bindEq (aE6 hF (by first | omega | (simp only; omega))) (.ite (λ_=>.ret (HJ (by decide))) λ_=>.app (by simp; omega) ?_)
        refine .loop (λs=>0≤s.2∧s.2≤d.Chunks.length∧(s.1.length:Int)≤c.Chunks.length+s.2∧∀x∈s.1,lN 200 x) (λs=>(d.Chunks.length - s.2).toNat) (λs=>s.1.length≤360∧∀x∈s.1,lN 200 x) (by simp; omega) ⟨by simp,by simp,by simp,H.k⟩ (λs hs=> ?_) (λs hs=> ?_)
        · obtain⟨q,i⟩:=s
          simp only at hs
          unfold yI
          refine .ite (λhc=> ?_) λ_=>.brk ⟨by first | omega | (simp only; omega),hs.2.2.2⟩
          have hc:=of_decide_eq_true hc
          simp only at hc
          rw[wr (n:=i+1) (by omega) (by omega)]
          refine .ix (by omega) (by omega) λx _ hx=> ?_
          have gx:=hd.ch x hx
          refine .bind _ (aG0 hF (by first | omega | (simp only; omega)) hs.2.2.2 ⟨gx.1,gx.2.1,gx.2.2.1,by rw[gx.2.2.2]; exact⟨by simp,λ_ h=>by simp at h⟩⟩ (by omega)) λy hy=>.go ⟨⟨by first | omega | (simp only; omega),by first | omega | (simp only; omega), ?_,hy.2⟩,by first | omega | (simp only; omega)⟩
          have:=hy.1
          simp only at this ⊢
          omega
        · obtain⟨q,i⟩:=s
          refine .some ?_
          refine⟨yJ _,by simp; omega,λx hx=> ?_,hs.1,λx hx=>(hs.2 x hx).mono (by omega),H2.en,H2.e,H2.vn,H2.v⟩
          rcases List.mem_append.1 hx with h | h
          · exact H2.s x h
          · rw[List.mem_singleton] at h
            subst h
            exact⟨hd.seq,hd.man,by rw[hd.locs]; exact⟨by simp,λ_ h=>by simp at h⟩⟩
    exact .after (.ite (λ_=>.brk (k1 _)) λ_=>.brk (k1 _))
  · refine .after (T.mono (P:=L3 (λ_=>False) (λj=>Md 264 264 j.1 j.2.1 j.2.2.1 j.2.2.2.1 j.2.2.2.2) (L3 (λ_=>False) (λj=>Md 264 264 j.1 j.2.1 j.2.2.1 j.2.2.2.1 j.2.2.2.2) Po)) (.ite (λ_=> ?_) λ_=> ?_) λj hj=> ?_)
    · refine .bind _ (aBJ hF H (by omega) (by omega)) λy hy=>.ite (λ_=>.ret (show Po _ from HJ (by decide))) λ_=>.brk (hy.mono (by omega) (by omega))
    · refine .after (T.mono (P:=L3 (λ_=>False) (λj=>Md 264 264 j.1 j.2.1 j.2.2.1 j.2.2.2.1 j.2.2.2.2) (L3 (λ_=>False) (λj=>Md 264 264 j.1 j.2.1 j.2.2.1 j.2.2.2.1 j.2.2.2.2) (L3 (λ_=>False) (λj=>Md 264 264 j.1 j.2.1 j.2.2.1 j.2.2.2.1 j.2.2.2.2) Po))) (.ite (λ_=> ?_) λ_=> ?_) λj hj=> ?_)
      · have H137:=UW (F:=F) (c:= { Seq:=c.Seq,Snaps:=c.Snaps,Chunks:=c.Chunks,Exps:=c.Exps,Vols:=c.Vols}) (i:=d.Vol) (a:=1) (b:=2)
        refine .after (T.mono (P:=L3 (λ_=>False) (λb=>b=true→0≤d.Vol∧d.Vol < c.Vols.length) (λ_=>False)) (.bind _ H137 λy hy=>.ite (λhc=>.ite (λ_=>.brk λ_=>hy hc) λ_=>.brk λh=>by cases h) λ_=>.brk λh=>by cases h) λj hj=> ?_)
        cases j with
        | go _=>exact hj
        | ret _=>exact hj.elim
        | brk b=>
        replace hj:b=true→0≤d.Vol∧d.Vol < c.Vols.length:=hj
        refine T.loop (λs=>0≤s.2∧s.2≤d.Items.length∧(s.1=true→0≤d.Vol∧d.Vol < c.Vols.length)) (λs=>(d.Items.length - s.2).toNat) (λs=>s.1=true→0≤d.Vol∧d.Vol < c.Vols.length) (by simp; omega) ⟨by simp,by simp,hj⟩ (λs hs=> ?_) (λs hs=> ?_)
        · obtain⟨b,i⟩:=s
          simp only at hs
          unfold CJ
          refine .ite (λhc=> ?_) λ_=>.brk hs.2.2
          have hc:=of_decide_eq_true hc
          simp only at hc
          rw[wr (n:=i+1) (by omega) (by omega)]
          have fin:∀b':Bool,(b'=true→0≤d.Vol∧d.Vol < c.Vols.length)→T (some (.go (b',i+1)):Option (Lp (Bool×Int) (Lp (Int×List aG×List aA×List aQ×List aR) (Lp (Int×List aG×List aA×List aQ×List aR) (Lp (Int×List aG×List aA×List aQ×List aR) UX)))))
            (L3 (λs'=>(0≤s'.2∧s'.2≤d.Items.length∧(s'.1=true→0≤d.Vol∧d.Vol < c.Vols.length))∧(d.Items.length - s'.2).toNat < (d.Items.length - i).toNat) (λs=>s.1=true→0≤d.Vol∧d.Vol < c.Vols.length) (L3 (λ_=>False) (λj=>Md 264 264 j.1 j.2.1 j.2.2.1 j.2.2.2.1 j.2.2.2.2) (L3 (λ_=>False) (λj=>Md 264 264 j.1 j.2.1 j.2.2.1 j.2.2.2.1 j.2.2.2.2) (L3 (λ_=>False) (λj=>Md 264 264 j.1 j.2.1 j.2.2.1 j.2.2.2.1 j.2.2.2.2) Po)))):=λb' hb'=>.go ⟨⟨by first | omega | (simp only; omega),by first | omega | (simp only; omega),hb'⟩,by first | omega | (simp only; omega)⟩
          refine .after (.ite (λhb=> ?_) λ_=>.brk (fin _ λh=>by cases h))
          exact .ix (by omega) (by omega) λx _ _=>.ite (λ_=>.ix (by omega) (by omega) λy _ _=>.brk (fin _ λ_=>hs.2.2 hb)) λ_=>.brk (fin _ λh=>by cases h)
        · obtain⟨b,i0⟩:=s
          refine .ite (λ_=>.ret (show Po _ from HJ (by decide))) λhb=> ?_
          have hv:=hs (by simpa using hb)
          refine .ix hv.1 hv.2 λx _ hx=> ?_
          have gx:=ok.sm.g.2.2.2.2 x hx
          have gx1:qE { x with State:=2}:=⟨gx.1,gx.2.1,(by show gI _; simp[gI]),gx.2.2.2⟩
          have gx2:qE { ({ x with State:=2}:aR) with Files:=IntKind.wrap .i64 (x.Files+1)}:=⟨gx.1,gx.2.1,(by show gI _; simp[gI]),yJ _⟩
          have HV:Md 200 200 c.Seq c.Snaps c.Chunks c.Exps ((c.Vols.set d.Vol.toNat { x with State:=2}).set d.Vol.toNat { ({ x with State:=2}:aR) with Files:=IntKind.wrap .i64 (x.Files+1)}):=(H.setV gx1).setV gx2
          generalize hV:(c.Vols.set d.Vol.toNat { x with State:=2}).set d.Vol.toNat { ({ x with State:=2}:aR) with Files:=IntKind.wrap .i64 (x.Files+1)}=V at HV
          refine T.loop (λs=>0≤s.2.2.2.2∧s.2.2.2.2≤d.Items.length∧Md (200+s.2.2.2.2.toNat) (200+s.2.2.2.2.toNat) s.1 s.2.1 s.2.2.1 s.2.2.2.1 V) (λs=>(d.Items.length - s.2.2.2.2).toNat) (λs=>Md 264 264 s.1 s.2.1 s.2.2.1 s.2.2.2.1 V) (by simp; omega) ⟨by simp,by simp,HV⟩ (λs hs=> ?_) (λs hs=> ?_)
          · obtain⟨q,s,k,e,i⟩:=s
            simp only at hs
            unfold CK
            refine .ite (λhc=> ?_) λ_=>.brk (hs.2.2.mono (by first | omega | (simp only; omega)) (by first | omega | (simp only; omega)))
            have hc:=of_decide_eq_true hc
            simp only at hc
            simp only[hV]
            rw[wr (n:=i+1) (by omega) (by omega)]
            refine .ix (by omega) (by omega) λx1 _ hx1=>.ix (by omega) (by omega) λx2 _ hx2=>.ix (by omega) (by omega) λx3 _ hx3=> ?_
            have d1:=hd.iti x1 hx1
            have d2:=hd.iti x2 hx2
            have d3:=hd.iti x3 hx3
            refine .bind _ (aGZ hF hs.2.2 (by omega) (by omega) ⟨gvol,yJ _,d2.2.2.1,d3.2.2.2⟩ d1.1 d1.2.1) λy hy=>.ite (λ_=>.ret (show Po _ from HJ (by decide))) λ_=>.go ⟨⟨by first | omega | (simp only; omega),by first | omega | (simp only; omega), ?_⟩,by first | omega | (simp only; omega)⟩
            exact hy.mono (by first | omega | (simp only; omega)) (by first | omega | (simp only; omega))
          · obtain⟨q,s,k,e,i0⟩:=s
            simp only at hs
            refine T.loop (λs'=>0≤s'.2.2∧s'.2.2≤d.Items.length∧Md 264 264 q s'.1 s'.2.1 e V) (λs'=>(d.Items.length - s'.2.2).toNat) (λs'=>Md 264 264 q s'.1 s'.2.1 e V) (by simp; omega) ⟨by simp,by simp,hs⟩ (λs' hs2=> ?_) (λs' hs2=> ?_)
            · obtain⟨s,k,i⟩:=s'
              simp only at hs2
              unfold CL
              refine .ite (λhc=> ?_) λ_=>.brk hs2.2.2
              have hc:=of_decide_eq_true hc
              simp only at hc
              simp only[hV]
              rw[wr (n:=i+1) (by omega) (by omega)]
              refine .ix (by omega) (by omega) λx1 _ _=>.after (.ite (λ_=>.ix (by omega) (by omega) λx2 _ _=>.bind _ (aBJ hF hs2.2.2 (by omega) (by omega)) λy hy=>.brk (.go ⟨⟨by first | omega | (simp only; omega),by first | omega | (simp only; omega),hy⟩,by first | omega | (simp only; omega)⟩)) λ_=>.brk (.go ⟨⟨by first | omega | (simp only; omega),by first | omega | (simp only; omega),hs2.2.2⟩,by first | omega | (simp only; omega)⟩))
            · obtain⟨s,k,i1⟩:=s'
              simp only at hs2
              simp only[hV]
              refine .after (T.mono (P:=L3 (λ_=>False) (λk'=>Md 264 264 q s k' e V) (λ_=>False)) (.ite (λ_=> ?_) λ_=>.brk hs2) λj hj2=> ?_)
              · refine T.loop (λs'=>0≤s'.2∧s'.2≤d.Items.length∧Md 264 264 q s s'.1 e V) (λs'=>(d.Items.length - s'.2).toNat) (λs'=>Md 264 264 q s s'.1 e V) (by simp; omega) ⟨by simp,by simp,hs2⟩ (λs' hs3=> ?_) (λs' hs3=>.brk hs3)
                obtain⟨k,i⟩:=s'
                simp only at hs3
                unfold v9
                refine .ite (λhc=> ?_) λ_=>.brk hs3.2.2
                have hc:=of_decide_eq_true hc
                simp only at hc
                simp only[hV]
                rw[wr (n:=i+1) (by omega) (by omega)]
                have hk:=hs3.2.2.kn
                refine .ix (by omega) (by omega) λx1 _ _=>.after (.ite (λ_=>.ix (by omega) (by omega) λx2 _ _=>.bind _ (t64 hF (by first | omega | (simp only; omega))) λy hy=>.after (.ite (λh0=> ?_) λ_=>.brk (.brk (.go ⟨⟨by first | omega | (simp only; omega),by first | omega | (simp only; omega),hs3.2.2⟩,by first | omega | (simp only; omega)⟩)))) λ_=>.brk (.go ⟨⟨by first | omega | (simp only; omega),by first | omega | (simp only; omega),hs3.2.2⟩,by first | omega | (simp only; omega)⟩))
                have h0:=of_decide_eq_true h0
                simp only at hy
                refine .ix (by omega) (by omega) λz _ hz=>.ix (by omega) (by simp; omega) λz2 _ hz2=>.brk (.brk (.go ⟨⟨by first | omega | (simp only; omega),by first | omega | (simp only; omega), ?_⟩,by first | omega | (simp only; omega)⟩))
                have gz:=hs3.2.2.k z hz
                have gz1:lN 264 { z with Staged:=false}:=gz
                have gz2:lN 264 z2:=(kG hz2).elim (hs3.2.2.k z2) λe=>e ▸ gz1
                exact(hs3.2.2.setK gz1).setK (x:= { z2 with Data:= []}) ⟨gz2.1,by simp,λ_ h=>by simp at h,gz2.2.2.2⟩
              · cases j with
                | go _=>exact hj2
                | ret _=>exact hj2.elim
                | brk k'=>exact .brk hj2
      · refine .after (T.mono (P:=L3 (λ_=>False) (λj=>Md 264 264 c.Seq j.1 j.2.1 j.2.2.1 j.2.2.2) (L3 (λ_=>False) (λj=>Md 264 264 j.1 j.2.1 j.2.2.1 j.2.2.2.1 j.2.2.2.2) (L3 (λ_=>False) (λj=>Md 264 264 j.1 j.2.1 j.2.2.1 j.2.2.2.1 j.2.2.2.2) (L3 (λ_=>False) (λj=>Md 264 264 j.1 j.2.1 j.2.2.1 j.2.2.2.1 j.2.2.2.2) Po)))) (.ite (λ_=> ?_) λ_=> ?_) λj hj=> ?_)
        · refine .bind _ UW λy hy=>.ite (λ_=>.ret (show Po _ from HJ (by decide))) λhb=> ?_
          have hv:=hy (by simpa using hb)
          refine .ix hv.1 hv.2 λx _ hx=> ?_
          have gx:=ok.sm.g.2.2.2.2 x hx
          have gx1:qE { x with State:=3}:=⟨gx.1,gx.2.1,(by show gI _; simp[gI]),gx.2.2.2⟩
          refine .ix hv.1 (by simp; exact hv.2) λx2 _ hx2=> ?_
          have gx2:qE x2:=(kG hx2).elim (ok.sm.g.2.2.2.2 x2) λe=>e ▸ gx1
          have gx3:qE { x2 with Files:=0}:=⟨gx2.1,gx2.2.1,gx2.2.2.1,(by show gI _; simp[gI])⟩
          have HV:Md 200 200 c.Seq c.Snaps c.Chunks c.Exps ((c.Vols.set d.Vol.toNat { x with State:=3}).set d.Vol.toNat { x2 with Files:=0}):=(H.setV gx1).setV gx3
          refine T.loop (λs=>0≤s.2∧s.2≤c.Chunks.length∧(s.1.length:Int)≤s.2∧∀x∈s.1,lN 200 x) (λs=>(c.Chunks.length - s.2).toNat) (λs=>s.1.length≤360∧∀x∈s.1,lN 200 x) (by simp; omega) (by simp) (λs hs=> ?_) (λs hs=> ?_)
          · obtain⟨q,i⟩:=s
            simp only at hs
            unfold wA
            refine .ite (λhc=> ?_) λ_=>.brk ⟨by first | omega | (simp only; omega),hs.2.2.2⟩
            have hc:=of_decide_eq_true hc
            simp only at hc
            rw[wr (n:=i+1) (by omega) (by omega)]
            refine .ix (by omega) (by omega) λx1 _ hx1=>.bind _ (UV hF (H.k x1 hx1).2.2.2 (by omega)) λy hy=> ?_
            have put:∀b:Bool,T (after (if b=true then ((app q ([{ x1 with Locs:=y}]:List aA)).bind λz16059=>some (.brk z16059)) else some (.brk q):Option (Lp (List aA) (Lp (List aA×Int) (Lp (List aG×List aA×List aQ×List aR) (Lp (Int×List aG×List aA×List aQ×List aR) (Lp (Int×List aG×List aA×List aQ×List aR) (Lp (Int×List aG×List aA×List aQ×List aR) UX))))))) λj16055=>some (.go (j16055,i+1)))
                (L3 (λs'=>(0≤s'.2∧s'.2≤c.Chunks.length∧(s'.1.length:Int)≤s'.2∧∀x∈s'.1,lN 200 x)∧(c.Chunks.length - s'.2).toNat < (c.Chunks.length - i).toNat) (λs=>s.1.length≤360∧∀x∈s.1,lN 200 x) (L3 (λ_=>False) (λj=>Md 264 264 c.Seq j.1 j.2.1 j.2.2.1 j.2.2.2) (L3 (λ_=>False) (λj=>Md 264 264 j.1 j.2.1 j.2.2.1 j.2.2.2.1 j.2.2.2.2) (L3 (λ_=>False) (λj=>Md 264 264 j.1 j.2.1 j.2.2.1 j.2.2.2.1 j.2.2.2.2) (L3 (λ_=>False) (λj=>Md 264 264 j.1 j.2.1 j.2.2.1 j.2.2.2.1 j.2.2.2.2) Po))))):=λb=>by
              refine .after (.ite (λ_=>.app (by simp; omega) (.brk (.go ⟨⟨by first | omega | (simp only; omega),by first | omega | (simp only; omega),by simp; omega,λw hw=> ?_⟩,by first | omega | (simp only; omega)⟩))) λ_=>.brk (.go ⟨⟨by first | omega | (simp only; omega),by first | omega | (simp only; omega),by first | omega | (simp only; omega),hs.2.2.2⟩,by first | omega | (simp only; omega)⟩))
              rcases List.mem_append.1 hw with h | h
              · exact hs.2.2.2 w h
              · rw[List.mem_singleton] at h
                subst h
                exact⟨(H.k x1 hx1).1,(H.k x1 hx1).2.1,(H.k x1 hx1).2.2.1,hy⟩
            exact .after (.ite (λ_=>.brk (put _)) λ_=>.brk (put _))
          · obtain⟨k,i0⟩:=s
            simp only at hs
            refine T.loop (λs=>0≤s.2∧s.2≤c.Snaps.length∧s.1.length=c.Snaps.length∧∀x∈s.1,C9 200 x) (λs=>(c.Snaps.length - s.2).toNat) (λs=>s.1.length≤9∧∀x∈s.1,C9 200 x) (by simp; omega) ⟨by simp,by simp,rfl,H.s⟩ (λs hs2=> ?_) (λs hs2=> ?_)
            · obtain⟨q,i⟩:=s
              simp only at hs2
              unfold wB
              refine .ite (λhc=> ?_) λ_=>.brk ⟨by first | omega | (simp only; omega),hs2.2.2.2⟩
              have hc:=of_decide_eq_true hc
              simp only at hc
              rw[wr (n:=i+1) (by omega) (by omega)]
              refine .ix (by omega) (by omega) λx1 _ hx1=>.bind _ (UV hF (hs2.2.2.2 x1 hx1).2.2 (by omega)) λy hy=>.ix (by omega) (by omega) λx2 _ hx2=>.go ⟨⟨by first | omega | (simp only; omega),by first | omega | (simp only; omega),by simp; exact hs2.2.2.1,λw hw=> ?_⟩,by first | omega | (simp only; omega)⟩
              rcases kG hw with h | rfl
              · exact hs2.2.2.2 w h
              · exact⟨(hs2.2.2.2 x2 hx2).1,(hs2.2.2.2 x2 hx2).2.1,hy⟩
            · obtain⟨s,i1⟩:=s
              simp only at hs2
              refine T.loop (λs=>0≤s.2∧s.2≤c.Exps.length∧(s.1.length:Int)≤s.2∧∀x∈s.1,HI 200 x) (λs=>(c.Exps.length - s.2).toNat) (λs=>s.1.length≤200∧∀x∈s.1,HI 200 x) (by simp; omega) (by simp) (λs hs3=> ?_) (λs hs3=> ?_)
              · obtain⟨q,i⟩:=s
                simp only at hs3
                unfold wC
                refine .ite (λhc=> ?_) λ_=>.brk ⟨by first | omega | (simp only; omega),hs3.2.2.2⟩
                have hc:=of_decide_eq_true hc
                simp only at hc
                rw[wr (n:=i+1) (by omega) (by omega)]
                refine .ix (by omega) (by omega) λx1 _ hx1=>.bind _ (UV hF (H.e x1 hx1).2.2 (by omega)) λy hy=> ?_
                refine .after (.ite (λ_=>.app (by simp; omega) (.brk (.go ⟨⟨by first | omega | (simp only; omega),by first | omega | (simp only; omega),by simp; omega,λw hw=> ?_⟩,by first | omega | (simp only; omega)⟩))) λ_=>.brk (.go ⟨⟨by first | omega | (simp only; omega),by first | omega | (simp only; omega),by first | omega | (simp only; omega),hs3.2.2.2⟩,by first | omega | (simp only; omega)⟩))
                rcases List.mem_append.1 hw with h | h
                · exact hs3.2.2.2 w h
                · rw[List.mem_singleton] at h
                  subst h
                  exact⟨(H.e x1 hx1).1,(H.e x1 hx1).2.1,hy⟩
              · obtain⟨e,i2⟩:=s
                simp only at hs3
                exact .brk (Md.mono (n:=200) (m:=200) ⟨H.q,hs2.1,hs2.2,hs.1,hs.2,hs3.1,hs3.2,HV.vn,HV.v⟩ (by omega) (by omega))
        · refine .after (T.mono (P:=L3 (λ_=>False) (λv'=>Md 264 264 c.Seq c.Snaps c.Chunks c.Exps v') (L3 (λ_=>False) (λj=>Md 264 264 c.Seq j.1 j.2.1 j.2.2.1 j.2.2.2) (L3 (λ_=>False) (λj=>Md 264 264 j.1 j.2.1 j.2.2.1 j.2.2.2.1 j.2.2.2.2) (L3 (λ_=>False) (λj=>Md 264 264 j.1 j.2.1 j.2.2.1 j.2.2.2.1 j.2.2.2.2) (L3 (λ_=>False) (λj=>Md 264 264 j.1 j.2.1 j.2.2.1 j.2.2.2.1 j.2.2.2.2) Po))))) (.ite (λ_=> ?_) λ_=>.brk H2) λj hj=> ?_)
          · refine .bind _ UW λy hy=>.ite (λ_=>.ret (show Po _ from HJ (by decide))) λhb=> ?_
            have hv:=hy (by simpa using hb)
            refine .ix hv.1 hv.2 λx _ hx=>.ix hv.1 hv.2 λx1 _ hx1=> ?_
            have gx:=ok.sm.g.2.2.2.2 x1 hx1
            have gx1:qE { x1 with State:=1}:=⟨gx.1,gx.2.1,(by show gI _; simp[gI]),gx.2.2.2⟩
            refine .ix hv.1 (by simp; exact hv.2) λx2 _ hx2=>.brk ?_
            have gx2:qE x2:=(kG hx2).elim (ok.sm.g.2.2.2.2 x2) λe=>e ▸ gx1
            exact(H2.setV gx1).setV (x:= { x2 with Epoch:=IntKind.wrap .i64 (x.Epoch+1)}) ⟨gx2.1,yJ _,gx2.2.2.1,gx2.2.2.2⟩
          · cases j with
            | go _=>exact hj
            | brk j=>exact .brk hj
            | ret r=>exact hj
        · cases j with
          | go _=>exact hj
          | brk j=>exact .brk hj
          | ret r=>exact hj
      · cases j with
        | go _=>exact hj
        | brk j=>exact .brk hj
        | ret r=>exact hj
    · cases j with
      | go _=>exact hj
      | brk j=>exact .brk hj
      | ret r=>exact hj
  · cases j with
    | go _=>exact hj
    | brk j=>exact .some λ_=>hj
    | ret r=>exact hj
open Go.Vm
theorem AX {α:Type} {l:List α} {P:α→Prop} {i:Int} {x:α} (h0:0≤i) (hx:l[i.toNat]? =some x) (h:∀y∈l.take i.toNat,P y) (hP:P x):∀y∈l.take (i+1).toNat,P y:=by
 intro y hy
 obtain⟨hlt,he⟩:=List.getElem?_eq_some_iff.1 hx
 rw[show (i+1).toNat=i.toNat+1 from by omega,List.take_succ_eq_append_getElem hlt] at hy
 rcases List.mem_append.1 hy with h1 | h1
 ·exact h y h1
 ·rw[List.mem_singleton,he] at h1
  exact h1 ▸ hP
theorem N8 {α:Type} {l:List α} {i n:Nat} {x:α} (hx:l[i]? =some x) (hi:i < n):x∈l.take n:=by
 refine List.mem_of_getElem? (i:=i) ?_
 rw[List.getElem?_take_of_lt hi,hx]
theorem t67 {F:Nat} {c:aB} {d:aP} (hF:1000≤F) (h:Sm c) (hg:iX c=true) (hd:J8 d):T (M36 F c d) λr=>r.2=0→Sm r.1∧iX r.1=true:=by
  unfold M36
  refine .after (.bindEq (m19 hF h) (.ite (λhc=> ?_) λ_=> ?_))
  · rw[hg] at hc; cases hc
  · have rest:T (if (false:Bool)=true then (some (({ Seq:=0,Snaps:= [],Chunks:= [],Exps:= [],Vols:= []}:aB),1)) else (NJ F c).bind λy27=>(V0 F d).bind λy47=>(V1 F ({ Seq:=y27.Seq,Snaps:=y27.Snaps,Chunks:=y27.Chunks,Exps:=y27.Exps,Vols:=y27.Vols}:aB) y47).bind λy49=>if (y49.1 !=0)=true then (some (({ Seq:=0,Snaps:= [],Chunks:= [],Exps:= [],Vols:= []}:aB),y49.1)) else (TQ F ({ Seq:=y49.2.1,Snaps:=y49.2.2.1,Chunks:=y49.2.2.2.1,Exps:=y49.2.2.2.2.1,Vols:=y49.2.2.2.2.2}:aB)).bind λy69=>if (!y69)=true then (some (({ Seq:=0,Snaps:= [],Chunks:= [],Exps:= [],Vols:= []}:aB),1)) else some (({ Seq:=y49.2.1,Snaps:=y49.2.2.1,Chunks:=y49.2.2.2.1,Exps:=y49.2.2.2.2.1,Vols:=y49.2.2.2.2.2}:aB),0))
        λr=>r.2=0→Sm r.1∧iX r.1=true:=by
      refine .ite (λh=>by cases h) λ_=>.bindEq (aF8 hF h) (.bind _ (aG1 hF hd) λd' hd'=>.bind _ (aG2 hF ⟨h,rng hg⟩ hd') λy hy=>.ite (λh0=>.some λh1=> ?_) λh0=> ?_)
      · simp only at h1
        rw[h1] at h0
        cases h0
      · have M:=hy (by simpa using h0)
        have S:=M.sm (by omega) (by omega)
        refine .bindEq (m19 hF S) (.ite (λ_=>.some λh=>by simp at h) λhq=>.some λ_=>⟨S, ?_⟩)
        simpa using hq
    refine .ite (λ_=>.brk (T.ite (λ_=>.some λh=>by simp at h) λh=>absurd rfl h)) λ_=>.brk ?_
    cases decide (5 < d.Kind)
    · exact rest
    · exact T.ite (λ_=>.some λh=>by simp at h) λh=>absurd rfl h
def E8 (a:lP):Prop:=∀f∈a.Tree,f.Path.size≤100
theorem t27 {F:Nat} {l:List lP} (hF:1000≤F):T (V4 F l) λb=>b=false→∀a∈l.take 30,E8 a:=by
 unfold V4
 refine .ite (λ_=>.some λh=>by cases h) λhl=> ?_
 have hl:l.length≤120:=by simp at hl; omega
 refine .loop (λi=>0≤i∧i≤l.length∧i≤30∧∀a∈l.take i.toNat,E8 a) (λi=>(l.length - i).toNat) (λ_=>∀a∈l.take 30,E8 a) (by omega) (by simp) (λi hi=> ?_) (λi hi=>.some λ_=>hi)
 obtain⟨i0,i1,i2,i3⟩:=hi
 unfold CZ
 refine .after (.ite (λhc=>.brk (T.ite (λhc2=> ?_) λhc2=>.brk λa ha=> ?_)) λhc=>.brk (T.ite (λh=>by cases h) λ_=>.brk λa ha=> ?_))
 ·have hc:=of_decide_eq_true hc
  have hc2:=of_decide_eq_true hc2
  rw[wr (n:=i+1) (by omega) (by omega)]
  refine .after (.ix (by omega) (by omega) λx e hx=>.ite (λ_=>.brk (T.ite (λ_=>.ret λh=>by cases h) λh=>absurd rfl h)) λ_=>.ix (by omega) (by omega) λy e2 hy=>.brk (T.ite (λ_=>.ret λh=>by cases h) λht=> ?_))
  have ht:y.Tree.length≤10:=by simp at ht; omega
  refine .loop (λj=>0≤j∧j≤y.Tree.length∧∀f∈y.Tree.take j.toNat,f.Path.size≤100) (λj=>(y.Tree.length - j).toNat) (λ_=>E8 y) (by omega) (by simp) (λj hj=> ?_) (λj hj=>.go ⟨⟨by omega,by omega,by omega,AX i0 e2 i3 hj⟩,by omega⟩)
  obtain⟨j0,j1,j2⟩:=hj
  have same:∀z,l[i.toNat]? =some z→z=y:=λz hz=>by rw[e2] at hz; exact(Option.some.inj hz).symm
  unfold CY
  refine .ix (by omega) (by omega) λz ez _=> ?_
  obtain rfl:=same z ez
  refine .ite (λhc=> ?_) λhc=>.brk λf hf=>j2 f ?_
  ·have hc:=of_decide_eq_true hc
   rw[wr (n:=j+1) (by omega) (by omega)]
   refine .after (.ix (by omega) (by omega) λz2 ez2 _=> ?_)
   obtain rfl:=same z2 ez2
   refine .ix (by omega) (by omega) λf ef hf=>.ite (λ_=>.brk (T.ite (λ_=>.ret (show (_:Bool)=false→_ from λh=>by cases h)) λh=>absurd rfl h)) λ_=>.ix (by omega) (by omega) λz3 ez3 _=> ?_
   obtain rfl:=same z3 ez3
   refine .ix (by omega) (by omega) λf ef hf=>.brk (T.ite (λ_=>.ret (show (_:Bool)=false→_ from λh=>by cases h)) λhp=>.go ⟨⟨by omega,by omega,AX j0 ef j2 ?_⟩,by omega⟩)
   simp at hp
   omega
  ·have hc:¬(j < z.Tree.length):=by simpa using hc
   rw[List.take_of_length_le (by omega)]
   exact hf
 ·have hc2:¬(i < 30):=by simpa using hc2
  have:i.toNat=30:=by omega
  rw[this] at i3
  exact i3 a ha
 ·have hc:¬(i < l.length):=by simpa using hc
  refine i3 a ?_
  rw[List.take_of_length_le (by omega)]
  exact List.mem_of_mem_take ha
theorem aG3 (x:Int) (hx:gI x):cH .and .i64 x 1=0∨cH .and .i64 x 1=1:=by
 have e:cH .and .i64 x 1=IntKind.wrap .i64 ((BitVec.ofInt 64 x &&& BitVec.ofInt 64 1).toNat:Int):=rfl
 have e1:(BitVec.ofInt 64 1).toNat=1:=by decide
 rw[e,BitVec.toNat_and,e1,Nat.and_one_is_mod]
 rcases Nat.mod_two_eq_zero_or_one (BitVec.ofInt 64 x).toNat with h | h <;> rw[h]
 ·exact .inl rfl
 ·exact .inr rfl
theorem t29 {F:Nat} {l:List Int} (hF:1000≤F) (gl:gL gI l):T (M16 F l) λr=>gW r.length 1 8=true∧r.all EH=true∧gL gI r:=by
 unfold M16
 refine .loop (λs=>0≤s.2∧s.2≤l.length∧s.2≤8∧(s.1.length:Int)=s.2∧∀x∈s.1,x=0∨x=1) (λs=>(8 - s.2).toNat) (λs=>s.1.length≤8∧∀x∈s.1,x=0∨x=1) (by simp; omega) (by simp) (λs hs=> ?_) (λs hs=> ?_)
 ·obtain⟨q,i⟩:=s
  simp only at hs
  unfold C0
  refine .after (.ite (λhc=>.brk (T.ite (λhc2=> ?_) λhc2=>.brk ⟨by first | omega | (simp only; omega),hs.2.2.2.2⟩)) λhc=>.brk (T.ite (λh=>by cases h) λ_=>.brk ⟨by first | omega | (simp only; omega),hs.2.2.2.2⟩))
  have hc:=of_decide_eq_true hc
  have hc2:=of_decide_eq_true hc2
  simp only at hc hc2
  rw[wr (n:=i+1) (by omega) (by omega)]
  refine .ix (by omega) (by omega) λx _ hx=>.app (by simp; omega) (.go ⟨⟨by first | omega | (simp only; omega),by first | omega | (simp only; omega),by first | omega | (simp only; omega),by simp; omega,λy hy=> ?_⟩,by first | omega | (simp only; omega)⟩)
  rcases List.mem_append.1 hy with h | h
  ·exact hs.2.2.2.2 y h
  ·rw[List.mem_singleton] at h
   exact h ▸ aG3 x (gl x hx)
 ·obtain⟨q,i⟩:=s
  simp only at hs
  have fin:∀r:List Int,0 < r.length→r.length≤8→(∀x∈r,x=0∨x=1)→gW r.length 1 8=true∧r.all EH=true∧gL gI r:=λr h1 h2 h3=>by
   refine⟨by unfold gW; simp; omega, ?_,λx hx=> ?_⟩
   ·rw[List.all_eq_true]
    intro x hx
    rcases h3 x hx with rfl | rfl <;> rfl
   ·rcases h3 x hx with rfl | rfl <;> simp[gI]
  refine .after (.ite (λ_=>.brk (.some (fin _ (by simp) (by simp) (by simp)))) λhc=>.brk (.some (fin _ ?_ hs.1 hs.2)))
  have:¬((q.length:Int)=0):=by simpa using hc
  omega
theorem t28 {F:Nat} {q:List Int} {l:List lP} (hF:1000≤F) (h1:gW q.length 1 8=true) (h2:q.all EH=true) (h3:gL gI q) (gl:gL EB l) (ho:∀a∈l.take 30,E8 a):T (M15 F q l) λc=>Sm c∧iX c=true:=by
 have h8:q.length≤8:=by unfold gW at h1; simp at h1; omega
 unfold M15
 refine .bindEq (m32 hF (by omega)) ?_
 refine .loop (λs=>0≤s.2∧s.2≤30∧Sm s.1∧iX s.1=true) (λs=>(30 - s.2).toNat) (λs=>Sm s.1∧iX s.1=true) (by simp; omega) ⟨by simp,by simp,QE h8 h3,JW h1 h2⟩ (λs hs=> ?_) (λs hs=>.some hs)
 obtain⟨c,i⟩:=s
 simp only at hs
 obtain⟨s1,s2,s3,s4⟩:=hs
 unfold C1
 refine .after (.ite (λhc=>.brk (T.ite (λhc2=> ?_) λhc2=>.brk ⟨s3,s4⟩)) λhc=>.brk (T.ite (λh=>by cases h) λ_=>.brk ⟨s3,s4⟩))
 have hc:=of_decide_eq_true hc
 have hc2:=of_decide_eq_true hc2
 simp only at hc hc2
 rw[wr (n:=i+1) (by omega) (by omega)]
 have go:∀c':aB,Sm c'→iX c'=true→T (some (.go (c',i+1)):Option (Lp (aB×Int) aB)) (L3 (λs'=>(0≤s'.2∧s'.2≤30∧Sm s'.1∧iX s'.1=true)∧(30 - s'.2).toNat < (30 - i).toNat) (λs=>Sm s.1∧iX s.1=true) (λc=>Sm c∧iX c=true)):=λc' h5 h6=>.go ⟨⟨by first | omega | (simp only; omega),by first | omega | (simp only; omega),h5,h6⟩,by first | omega | (simp only; omega)⟩
 refine .ix (by omega) (by omega) λa ea ha=>.bind _ (t66 hF ⟨s3,rng s4⟩ (lJ.1 s4) λf hf=>⟨ho a (N8 ea (by omega)) f hf,((gl a ha).2.2.2.1 f hf).2⟩) λy hy=>.after (.ite (λ_=>.bind _ (t67 hF s3 s4 hy.1) λz hz=>.after (.ite (λh0=> ?_) λ_=>.brk (.brk (go _ s3 s4)))) λ_=>.brk (go _ s3 s4))
 have:=hz (by simpa using h0)
 exact .brk (.brk (go _ this.1 this.2))
open Go.Vm
def yR (m:Nat) (p0:List Int) (p1:Int) (p2:Int):Option ((List Int)):=
 (H7 m [] p1 p2).bind λy3=>(app p0 y3.1).bind λz0=>some z0
theorem DA {w:Nat} {p0:List Int} {p1:Int} {p2:Int} {o:(List Int)} (h:aF) {t_p0:Option cB} (ot_p0:t_p0=none→p0= []) (K0:bV h [(t_p0,.tok 5 1 ((p0:List Int).length*1))]) (m:yR w p0 p1 p2=some o):
 aL Tryz.prog 95 [ow t_p0 1 (List.map dD p0),nZ p1,nZ p2] (hp h [(t_p0,.tok 5 1 ((p0:List Int).length*1))]) (λr h'=>∃t,(t=none→o= [])∧bV h [(t,.tok 5 1 (o.length*1))]∧r=ow t 1 (List.map dD o)∧h'=hp h [(t,.tok 5 1 (o.length*1))]):=by
 refine tH K0 18 [.tmp 6] Tryz.func95 rfl rfl rfl rfl ?_
 unfold yR at m
 refine v (v ?_)
 obtain⟨_,Y4,m⟩:=aC m
 refine ve λu=>cK (pT (.cons (aX _) (.k2 .nil)) (RK _ Y4)) rfl RL rfl ?_
 rintro x h' ⟨tg5,t6,K7,rfl,rfl⟩
 refine qk (bV.co u K7) (iU _ _ _) (v ?_)
 obtain⟨z0,Z0,m⟩:=aC m
 refine ve λu=>fF (c:=dD) 1 Z0 jH rfl rfl rfl ot_p0 u (nI t6) λtg0 t0 K1=>qk K1 rfl (v ?_)
 obtain rfl:=eB m
 exact vr λu=>dX.one (.inl rfl) (aS (.cons _ (.cons_cons _ (List.nil_sublist _))) u).1 (bH.refl _ _) ⟨tg0,t0,(aS (.cons _ (.cons_cons _ (List.nil_sublist _))) u).2,rfl,rfl⟩
theorem DB:aO Tryz.prog 95=true:=by kernel_rfl
def zT (m:Nat) (p0:Int) (p1:Int):Option (Bool):=
 after (if (decide (0≤p0))=true then (some (.brk (decide (p0≤p1)))) else some (.brk false):Option (Lp (Bool) (Bool))) λj4=>some j4
theorem E9 {u:Nat} {p0:Int} {p1:Int} {o:Bool} (h:aF) (m:zT u p0 p1=some o):
 aL Tryz.prog 161 [nZ p0,nZ p1] h (λr h'=>r= .sc (.bool o)∧h'=h):=by
 refine fN 12 [.tmp 4] Tryz.func161 rfl rfl rfl rfl ?_
 unfold zT at m
 refine v (vs (fB m (σ:=Bool) (λs=> []) (λs=>.c 4 (.sc (.bool s)) .nil) (λx m=> ?_) ?_))
 refine v ?_
 apply vi m <;> intro b5 m
 rw[b5]
 exact iN m
 rw[b5]
 exact iN m
 rintro _ j4 m
 refine v ?_
 obtain rfl:=eB m
 exact dQ rfl
theorem vA:aO Tryz.prog 161=true:=by kernel_rfl
def UY (m:Nat) (p0:bE):Option (Bool):=
 after ((zT m p0.Seq 4294967295).bind λy0=>if (!y0)=true then (some (.brk true)) else (zT m p0.Of 4294967295).bind λy1=>if (!y1)=true then (some (.brk true)) else (zT m p0.Off 16777215).bind λy2=>if (!y2)=true then (some (.brk true)) else (zT m p0.Len 65535).bind λy3=>some (.brk (!y3)):Option (Lp (Bool) (Bool))) λj0=>if j0=true then (some false) else if (p0.Kind==1)=true then (after (if (p0.Seq==0)=true then (some (.brk (p0.Of==0))) else some (.brk false):Option (Lp (Bool) (Bool))) λj1=>some j1) else if (p0.Kind==2)=true then (after (if (decide (p0.Id=jX))=true then (some (.brk (p0.Of==0))) else some (.brk false):Option (Lp (Bool) (Bool))) λj2=>some j2) else after (if (p0.Kind==3)=true then (some (.brk (decide (p0.Id=jX)))) else some (.brk false):Option (Lp (Bool) (Bool))) λj3=>some j3
theorem aG4 {u:Nat} {p0:bE} {o:Bool} (h:aF) (m:UY u p0=some o):
 aL Tryz.prog 163 [.agg (aY p0)] h (λr h'=>r= .sc (.bool o)∧h'=h):=by
 refine fN 57 [.tmp 2] Tryz.func163 rfl rfl rfl rfl ?_
 unfold UY at m
 refine v (gG rfl rfl λk2 K3=>vs (vs (fB m (σ:=Bool) (λs=> [(some k2,.obj 38 (aY p0))]) (λs=>.c 1 (.ptr k2 0) (.c 24 (.sc (.bool s)) .nil)) (λx m=> ?_) ?_)))
 refine v (vl 0 _ bX rfl rfl rfl (vk E9 vA m rfl rfl λ_ m=> ?_))
 apply vi m <;> intro b0 m
 rw[b0]
 exact qO m
 rw[b0]
 refine vl 0 _ bX rfl rfl rfl (vk E9 vA m rfl rfl λ_ m=> ?_)
 apply vi m <;> intro b1 m
 rw[b1]
 exact qO m
 rw[b1]
 refine vl 0 _ bX rfl rfl rfl (vk E9 vA m rfl rfl λ_ m=> ?_)
 apply vi m <;> intro b2 m
 rw[b2]
 exact qO m
 rw[b2]
 exact vl 0 _ bX rfl rfl rfl (vk E9 vA m rfl rfl λ_ m=>qO m)
 rintro _ j0 m
 refine v ?_
 apply vi m <;> intro c0 m
 refine v (v ?_)
 obtain rfl:=eB m
 exact dQ rfl
 refine v (v (vl 0 _ bX rfl rfl rfl (v (v (v ?_)))))
 apply vi m <;> intro c1 m
 refine vs (fB m (σ:=Bool) (λs=> [(some k2,.obj 38 (aY p0))]) (λs=>.c 2 (.sc (.bool s)) .nil) (λx m=> ?_) ?_)
 refine v (vl 0 _ bX rfl rfl rfl ?_)
 apply vi m <;> intro b3 m
 rw[b3]
 exact vl 0 _ bX rfl rfl rfl (iN m)
 rw[b3]
 exact iN m
 rintro _ j1 m
 refine v ?_
 obtain rfl:=eB m
 exact dQ rfl
 refine v (v ?_)
 apply vi m <;> intro c2 m
 refine vs (fB m (σ:=Bool) (λs=> [(some k2,.obj 38 (aY p0))]) (λs=>.c 2 (.sc (.bool s)) .nil) (λx m=> ?_) ?_)
 refine v (vl 0 (.agg (bJ p0.Id)) fK rfl rfl rfl (bU (F0 (bJ jX) (show xB Tryz.prog 36=some (List.replicate 32 (.int .u8 0),(List.range 32).map λi=>(i,1)) from by kernel_rfl) rfl) (bU (rM yZ OQ u5 BX rfl rfl) ?_)))
 apply vi m <;> intro b4 m
 rw[b4]
 exact vl 0 _ bX rfl rfl rfl (iN m)
 rw[b4]
 exact iN m
 rintro _ j2 m
 refine v ?_
 obtain rfl:=eB m
 exact dQ rfl
 refine v (vs (fB m (σ:=Bool) (λs=> [(some k2,.obj 38 (aY p0))]) (λs=>.c 2 (.sc (.bool s)) .nil) (λx m=> ?_) ?_))
 refine v (vl 0 _ bX rfl rfl rfl ?_)
 apply vi m <;> intro b5 m
 rw[b5]
 exact vl 0 (.agg (bJ p0.Id)) fK rfl rfl rfl (bU (F0 (bJ jX) (show xB Tryz.prog 36=some (List.replicate 32 (.int .u8 0),(List.range 32).map λi=>(i,1)) from by kernel_rfl) rfl) (bU (rM yZ OQ u5 BX rfl rfl) (iN m)))
 rw[b5]
 exact iN m
 rintro _ j3 m
 refine v ?_
 obtain rfl:=eB m
 exact dQ rfl
theorem aBK:aO Tryz.prog 163=true:=by kernel_rfl
def UZ (m:Nat) (p0:bE):Option (Bool):=
 (UY m p0).bind λy6=>some (!y6)
theorem aG5 {u:Nat} {p0:bE} {o:Bool} (h:aF) (m:UZ u p0=some o):
 aL Tryz.prog 162 [.agg (aY p0)] h (λr h'=>r= .sc (.bool o)∧h'=h):=by
 refine fN 6 [.tmp 2] Tryz.func162 rfl rfl rfl rfl ?_
 unfold UZ at m
 refine v (gG rfl rfl λk2 K3=>v (vl 0 (.agg (aY p0)) GA rfl rfl rfl (vk aG4 aBK m rfl rfl λ_ m=>v ?_)))
 cases m
 exact dQ rfl
theorem aBL:aO Tryz.prog 162=true:=by kernel_rfl
def U0 (m:Nat) (p0:aP):Option (Bool):=
 after (if (p0.Snap.Seq==0)=true then (if (p0.Snap.Man.Name.toList==(ByteArray.mk #[]).toList)=true then (some (.brk ((IntKind.wrap .i64 ((p0.Snap.Man.Parts.length:Int)+(p0.Snap.Locs.length:Int)))==0))) else some (.brk false)) else some (.brk false):Option (Lp (Bool) (Bool))) λj8=>if (p0.Kind==1)=true then (after (if (p0.Seq==0)=true then (if (p0.Vol==0)=true then (some (.brk ((p0.Items.length:Int)==0))) else some (.brk false)) else some (.brk false):Option (Lp (Bool) (Bool))) λj0=>some j0) else if (p0.Kind==2)=true then (after (if j8=true then (if ((p0.Chunks.length:Int)==0)=true then (if (p0.Vol==0)=true then (some (.brk ((p0.Items.length:Int)==0))) else some (.brk false)) else some (.brk false)) else some (.brk false):Option (Lp (Bool) (Bool))) λj1=>some j1) else if (p0.Kind==3)=true then (after (if j8=true then (if ((p0.Chunks.length:Int)==0)=true then (some (.brk (p0.Seq==0))) else some (.brk false)) else some (.brk false):Option (Lp (Bool) (Bool))) λj2=>some j2) else after (if j8=true then (if ((p0.Chunks.length:Int)==0)=true then (if (p0.Seq==0)=true then (some (.brk ((p0.Items.length:Int)==0))) else some (.brk false)) else some (.brk false)) else some (.brk false):Option (Lp (Bool) (Bool))) λj3=>some j3
theorem aG6 {u:Nat} {p0:aP} {o:Bool} (h:aF) (m:U0 u p0=some o):
 aL Tryz.prog 158 [.agg (aD p0)] h (λr h'=>r= .sc (.bool o)∧h'=h):=by
 refine fN 98 [.tmp 2] Tryz.func158 rfl rfl rfl rfl ?_
 unfold U0 at m
 refine v (gG rfl rfl λk2 K3=>vs (fB m (σ:=Bool) (λs=> [(some k2,.obj 62 (aD p0))]) (λs=>.c 1 (.ptr k2 0) (.c 3 (.sc (.bool s)) .nil)) (λx m=> ?_) ?_))
 refine v (vl 0 _ bX rfl rfl rfl ?_)
 apply vi m <;> intro b9 m
 rw[b9]
 refine vl 0 _ tI rfl rfl rfl (bU (vI rfl rfl rfl trivial) ?_)
 apply vi m <;> intro b0 m
 rw[b0]
 exact vl 0 _ kR rfl rfl rfl (cZ p9 rfl (vl 0 _ e8 rfl rfl rfl (cZ iC rfl (qO m))))
 rw[b0]
 exact qO m
 rw[b9]
 exact qO m
 rintro _ j8 m
 refine v (vl 0 _ bX rfl rfl rfl (v (v (v ?_))))
 apply vi m <;> intro c0 m
 refine vs (fB m (σ:=Bool) (λs=> [(some k2,.obj 62 (aD p0))]) (λs=>.c 2 (.sc (.bool s)) .nil) (λx m=> ?_) ?_)
 refine v (vl 0 _ bX rfl rfl rfl ?_)
 apply vi m <;> intro b1 m
 rw[b1]
 refine vl 0 _ bX rfl rfl rfl ?_
 apply vi m <;> intro b2 m
 rw[b2]
 exact vl 0 _ jZ rfl rfl rfl (cZ n3 rfl (iN m))
 rw[b2]
 exact iN m
 rw[b1]
 exact iN m
 rintro _ j0 m
 refine v ?_
 obtain rfl:=eB m
 exact dQ rfl
 refine v (v ?_)
 apply vi m <;> intro c1 m
 refine vs (fB m (σ:=Bool) (λs=> [(some k2,.obj 62 (aD p0))]) (λs=>.c 2 (.sc (.bool s)) .nil) (λx m=> ?_) ?_)
 refine v ?_
 apply vi m <;> intro b3 m
 rw[b3]
 refine vl 0 _ eD rfl rfl rfl (cZ hM rfl ?_)
 apply vi m <;> intro b4 m
 rw[b4]
 refine vl 0 _ bX rfl rfl rfl ?_
 apply vi m <;> intro b5 m
 rw[b5]
 exact vl 0 _ jZ rfl rfl rfl (cZ n3 rfl (iN m))
 rw[b5]
 exact iN m
 rw[b4]
 exact iN m
 rw[b3]
 exact iN m
 rintro _ j1 m
 refine v ?_
 obtain rfl:=eB m
 exact dQ rfl
 refine v (v ?_)
 apply vi m <;> intro c2 m
 refine vs (fB m (σ:=Bool) (λs=> [(some k2,.obj 62 (aD p0))]) (λs=>.c 2 (.sc (.bool s)) .nil) (λx m=> ?_) ?_)
 refine v ?_
 apply vi m <;> intro b6 m
 rw[b6]
 refine vl 0 _ eD rfl rfl rfl (cZ hM rfl ?_)
 apply vi m <;> intro b7 m
 rw[b7]
 exact vl 0 _ bX rfl rfl rfl (iN m)
 rw[b7]
 exact iN m
 rw[b6]
 exact iN m
 rintro _ j2 m
 refine v ?_
 obtain rfl:=eB m
 exact dQ rfl
 refine v (vs (fB m (σ:=Bool) (λs=> [(some k2,.obj 62 (aD p0))]) (λs=>.c 2 (.sc (.bool s)) .nil) (λx m=> ?_) ?_))
 refine v ?_
 apply vi m <;> intro b8 m
 rw[b8]
 refine vl 0 _ eD rfl rfl rfl (cZ hM rfl ?_)
 apply vi m <;> intro b49 m
 rw[b49]
 refine vl 0 _ bX rfl rfl rfl ?_
 apply vi m <;> intro b50 m
 rw[b50]
 exact vl 0 _ jZ rfl rfl rfl (cZ n3 rfl (iN m))
 rw[b50]
 exact iN m
 rw[b49]
 exact iN m
 rw[b8]
 exact iN m
 rintro _ j3 m
 refine v ?_
 obtain rfl:=eB m
 exact dQ rfl
theorem aBM:aO Tryz.prog 158=true:=by kernel_rfl
def U1 (m:Nat) (p0:aA):Option (Bool):=
 some (decide (255 < (p0.Data.length:Int)))
theorem aG7 {u:Nat} {p0:aA} {o:Bool} (h:aF) (m:U1 u p0=some o):
 aL Tryz.prog 160 [.agg (aH p0)] h (λr h'=>r= .sc (.bool o)∧h'=h):=by
 refine fN 7 [.tmp 2] Tryz.func160 rfl rfl rfl rfl ?_
 unfold U1 at m
 refine v (gG rfl rfl λk2 K3=>v (vl 0 _ lH rfl rfl rfl (cZ kK rfl (v ?_))))
 cases m
 exact dQ rfl
theorem aBN:aO Tryz.prog 160=true:=by kernel_rfl
def M94 (m:Nat) (p0:aP):Option (Bool):=
 (U0 m p0).bind λy7=>if (!y7)=true then (some false) else if (p0.Kind==1)=true then ((NC m p0.Chunks (λx0=>U1 m x0)).bind λy0=>after ((zT m p0.Snap.Seq 4294967295).bind λy1=>if y1=true then (if ((p0.Snap.Locs.length:Int)==0)=true then ((D6 m p0.Snap.Man).bind λy2=>if (y2==0)=true then (if (decide ((p0.Chunks.length:Int)≤65535))=true then ((J3 m p0.Chunks).bind λy3=>if y3=true then (some (.brk (!y0))) else some (.brk false)) else some (.brk false)) else some (.brk false)) else some (.brk false)) else some (.brk false):Option (Lp (Bool) (Bool))) λj0=>some j0) else if (p0.Kind==2)=true then ((zT m p0.Seq 4294967295).bind λy4=>some y4) else if (p0.Kind==3)=true then (after ((zT m p0.Vol 255).bind λy5=>if y5=true then (if (decide ((p0.Items.length:Int)≤255))=true then ((J1 m p0.Items (λx0=>UZ m x0)).bind λy6=>some (.brk (!y6))) else some (.brk false)) else some (.brk false):Option (Lp (Bool) (Bool))) λj1=>some j1) else after (if (p0.Kind==4)=true then (some (.brk (p0.Kind==4))) else some (.brk (p0.Kind==5)):Option (Lp (Bool) (Bool))) λj2=>if j2=true then ((zT m p0.Vol 255).bind λy8=>some y8) else some false
theorem W94 {u:Nat} {p0:aP} {o:Bool} (h:aF) (m:M94 u p0=some o):
 aL Tryz.prog 94 [.agg (aD p0)] h (λr h'=>r= .sc (.bool o)∧h'=h):=by
 refine fN 75 [.tmp 2] Tryz.func94 rfl rfl rfl rfl ?_
 unfold M94 at m
 refine v (gG rfl rfl λk2 K3=>v (vl 0 (.agg (aD p0)) n7 rfl rfl rfl (vk aG6 aBM m rfl rfl λ_ m=>v ?_)))
 apply vi m <;> intro c9 m
 refine v (v ?_)
 obtain rfl:=eB m
 exact dQ rfl
 refine v (v (vl 0 _ bX rfl rfl rfl (v (v (v ?_)))))
 apply vi m <;> intro c0 m
 refine v (vl 0 _ eD rfl rfl rfl ?_)
 obtain⟨_,Y0,m⟩:=aC m
 refine bU (bZ (aAF _ aBN (λx0 o h0 hs ho=>aG7 _ ho) Y0) rfl R0 rfl) (vs (fB m (σ:=Bool) (λs=> [(some k2,.obj 62 (aD p0))]) (λs=>.c 2 (.sc (.bool s)) .nil) (λx m=> ?_) ?_))
 refine v (vl 0 _ bX rfl rfl rfl (vk E9 vA m rfl rfl λ_ m=> ?_))
 apply vi m <;> intro b0 m
 rw[b0]
 refine vl 0 _ e8 rfl rfl rfl (cZ iC rfl ?_)
 apply vi m <;> intro b1 m
 rw[b1]
 refine vl 0 (.agg (aU p0.Snap.Man)) lI rfl rfl rfl (vk P1 H5 m rfl rfl λ_ m=> ?_)
 apply vi m <;> intro b2 m
 rw[b2]
 refine vl 0 _ eD rfl rfl rfl (cZ hM rfl ?_)
 apply vi m <;> intro b3 m
 rw[b3]
 refine vl 0 _ eD rfl rfl rfl (vk aAG R4 m rfl rfl λ_ m=> ?_)
 apply vi m <;> intro b4 m
 rw[b4]
 exact iN m
 rw[b4]
 exact iN m
 rw[b3]
 exact iN m
 rw[b2]
 exact iN m
 rw[b1]
 exact iN m
 rw[b0]
 exact iN m
 rintro _ j0 m
 refine v ?_
 obtain rfl:=eB m
 exact dQ rfl
 refine v (v ?_)
 apply vi m <;> intro c1 m
 refine v (vl 0 _ bX rfl rfl rfl (vk E9 vA m rfl rfl λ_ m=>v ?_))
 obtain rfl:=eB m
 exact dQ rfl
 refine v (v ?_)
 apply vi m <;> intro c2 m
 refine vs (fB m (σ:=Bool) (λs=> [(some k2,.obj 62 (aD p0))]) (λs=>.c 2 (.sc (.bool s)) .nil) (λx m=> ?_) ?_)
 refine v (vl 0 _ bX rfl rfl rfl (vk E9 vA m rfl rfl λ_ m=> ?_))
 apply vi m <;> intro b5 m
 rw[b5]
 refine vl 0 _ jZ rfl rfl rfl (cZ n3 rfl ?_)
 apply vi m <;> intro b6 m
 rw[b6]
 refine vl 0 _ jZ rfl rfl rfl ?_
 obtain⟨_,Y1,m⟩:=aC m
 exact bU (bZ (ZQ _ aBL (λx0 o h0 hs ho=>aG5 _ ho) Y1) rfl RY rfl) (iN m)
 rw[b6]
 exact iN m
 rw[b5]
 exact iN m
 rintro _ j1 m
 refine v ?_
 obtain rfl:=eB m
 exact dQ rfl
 refine v (fB m (σ:=Bool) (λs=> [(some k2,.obj 62 (aD p0))]) (λs=>.c 1 (.ptr k2 0) (.c 69 (.sc (.bool s)) .nil)) (λx m=> ?_) ?_)
 refine v ?_
 apply vi m <;> intro c3 m
 exact v (qO m)
 exact v (qO m)
 rintro _ j2 m
 refine v ?_
 apply vi m <;> intro c4 m
 refine v (vl 0 _ bX rfl rfl rfl (vk E9 vA m rfl rfl λ_ m=>v ?_))
 obtain rfl:=eB m
 exact dQ rfl
 refine v (v (v ?_))
 obtain rfl:=eB m
 exact dQ rfl
theorem aG9:aO Tryz.prog 94=true:=by kernel_rfl
def HK (m:Nat) (p0:aP) (q0:List Int) (q1:Int):Option (Lp ((List Int)×Int) (Lp ((List Int)) ((List Int)×Int))):=
 if (decide (q1 < (p0.Chunks.length:Int)))=true then ((ix p0.Chunks q1).bind λx0=>(app q0 x0.Id.1).bind λz0=>(yR m z0 (x0.Data.length:Int) 1).bind λy0=>(app y0 x0.Data).bind λz1=>some (.go (z1,IntKind.wrap .i64 (q1+1)))) else some (.brk (q0,q1))
def HM (m:Nat) (p0:aP) (q0:List Int) (q1:Int):Option (Lp ((List Int)×Int) (Lp ((List Int)) (Lp ((List Int)) (Lp ((List Int)) ((List Int)×Int))))):=
 if (decide (q1 < (p0.Items.length:Int)))=true then ((ix p0.Items q1).bind λx0=>(app q0 ([IntKind.wrap .u8 x0.Kind]:List Int)).bind λz0=>(app z0 x0.Id.1).bind λz1=>(yR m z1 x0.Seq 4).bind λy0=>(yR m y0 x0.Of 4).bind λy1=>(yR m y1 x0.Off 3).bind λy2=>(yR m y2 x0.Len 2).bind λy3=>some (.go (y3,IntKind.wrap .i64 (q1+1)))) else some (.brk (q0,q1))
def M40 (m:Nat) (p0:aP):Option ((List Int)×Int):=
 (M94 m p0).bind λy7=>if (!y7)=true then (some ([],1)) else after (if (p0.Kind==1)=true then ((M42 m p0.Snap.Man).bind λy0=>(yR m ([IntKind.wrap .u8 p0.Kind]:List Int) p0.Snap.Seq 4).bind λy1=>(yR m y1 (y0.1.length:Int) 4).bind λy2=>(app y2 y0.1).bind λz0=>(yR m z0 (p0.Chunks.length:Int) 2).bind λy3=>after (aT (λs=>HK m p0 s.1 s.2) m (y3,0)) λ⟨r0,r1⟩=>some (.brk r0)) else after (if (p0.Kind==2)=true then ((yR m ([IntKind.wrap .u8 p0.Kind]:List Int) p0.Seq 4).bind λy4=>some (.brk y4)) else after (if (p0.Kind==3)=true then ((app ([IntKind.wrap .u8 p0.Kind]:List Int) ([IntKind.wrap .u8 p0.Vol,IntKind.wrap .u8 (p0.Items.length:Int)]:List Int)).bind λz1=>after (aT (λs=>HM m p0 s.1 s.2) m (z1,0)) λ⟨r2,r3⟩=>some (.brk r2)) else (app ([IntKind.wrap .u8 p0.Kind]:List Int) ([IntKind.wrap .u8 p0.Vol]:List Int)).bind λz2=>some (.brk z2):Option (Lp ((List Int)) (Lp ((List Int)) (Lp ((List Int)) ((List Int)×Int))))) λj0=>some (.brk j0):Option (Lp ((List Int)) (Lp ((List Int)) ((List Int)×Int)))) λj1=>some (.brk j1):Option (Lp ((List Int)) ((List Int)×Int))) λj2=>(RJ m j2).bind λy5=>some (y5,0)
theorem W40 {w:Nat} {p0:aP} {o:(List Int)×Int} (h:aF) (m:M40 w p0=some o):
 aL Tryz.prog 40 [.agg (aD p0)] h (λr h'=>r= .tup [.sl none 1 (List.map dD o.1),nZ o.2]∧h'=h):=by
 refine fN 120 [.tmp 2,.tmp 3] Tryz.func40 rfl rfl rfl rfl ?_
 unfold M40 at m
 refine v (gG rfl rfl λk2 K3=>v (vl 0 (.agg (aD p0)) n7 rfl rfl rfl (vk W94 aG9 m rfl rfl λ_ m=>v ?_)))
 apply vi m <;> intro c9 m
 refine v (v ?_)
 cases m
 exact vr λu=>dX.of2 (.inl rfl) (fU _ _ (.sc (.slice _ _ _)) rfl) (fU _ _ (.sc (.int _ _)) rfl) (aS (List.nil_sublist _) u).1 (aX _) (bH.refl _ _) ⟨rfl,rfl⟩
 refine v (v (vl 0 _ bX rfl rfl rfl (ve λu=>FQ (c:=dD) ([IntKind.wrap .u8 p0.Kind]:List Int) u jH rfl rfl rfl rfl λtg0 t0 K0=>qk K0 rfl (v (vl 1 _ bX rfl rfl rfl (v (v (o6 m (σ:=(List Int)) (τ:=Option cB) (λg s=> [(g,.tok 5 1 ((s:List Int).length*1)),(some k2,.obj 62 (aD p0))]) (λg s=>(g=none→s= [])) (λg s=>.c 4 (ow g 1 (List.map dD s)) .nil) (λx m=> ?_) ?_))))))))
 refine v ?_
 apply vi m <;> intro c0 m
 refine v (vl 1 (.agg (aU p0.Snap.Man)) lI rfl rfl rfl (vk W42 aDP m rfl rfl λ_ m=>v (vl 1 _ bX rfl rfl rfl ?_)))
 obtain⟨y0,Y0,m⟩:=aC m
 refine ve λu=> ?_
 have ho0:=lV (A:= [(tg0,.tok 5 1 ((([IntKind.wrap .u8 p0.Kind]:List Int):List Int).length*1))]) (R:= [(some k2,.obj 62 (aD p0))]) u [[_], [_]] rfl [0] [1] rfl rfl rfl
 refine dA ho0.1 (cK (DA _ t0 ho0.2.2 Y0) rfl DB rfl ?_)
 rintro x h' ⟨tg1,t1,K1,rfl,rfl⟩
 have K2:=lW (L':= [(tg1,.tok 5 1 ((y0:List Int).length*1)),(some k2,.obj 62 (aD p0))]) ho0.2.1 K1 [[_]] [[_]] rfl rfl [0,1] rfl rfl
 refine qk K2.2 K2.1 (cZ kK rfl ?_)
 obtain⟨y1,Y1,m⟩:=aC m
 refine ve λu=> ?_
 have ho1:=lV (A:= [(tg1,.tok 5 1 ((y0:List Int).length*1))]) (R:= [(some k2,.obj 62 (aD p0))]) u [[_], [_]] rfl [0] [1] rfl rfl rfl
 refine dA ho1.1 (cK (DA _ t1 ho1.2.2 Y1) rfl DB rfl ?_)
 rintro x h' ⟨tg2,t2,K4,rfl,rfl⟩
 have K5:=lW (L':= [(tg2,.tok 5 1 ((y1:List Int).length*1)),(some k2,.obj 62 (aD p0))]) ho1.2.1 K4 [[_]] [[_]] rfl rfl [0,1] rfl rfl
 refine qk K5.2 K5.1 ?_
 obtain⟨z0,Z0,m⟩:=aC m
 refine ve λu=>fF (c:=dD) 0 Z0 jH rfl rfl rfl t2 u rfl λtg3 t3 K6=>qk K6 rfl (v (vl 1 _ eD rfl rfl rfl (cZ hM rfl ?_)))
 obtain⟨y2,Y2,m⟩:=aC m
 refine ve λu=> ?_
 have ho2:=lV (A:= [(tg3,.tok 5 1 ((z0:List Int).length*1))]) (R:= [(some k2,.obj 62 (aD p0))]) u [[_], [_]] rfl [0] [1] rfl rfl rfl
 refine dA ho2.1 (cK (DA _ t3 ho2.2.2 Y2) rfl DB rfl ?_)
 rintro x h' ⟨tg4,t4,K7,rfl,rfl⟩
 have K8:=lW (L':= [(tg4,.tok 5 1 ((y2:List Int).length*1)),(some k2,.obj 62 (aD p0))]) ho2.2.1 K7 [[_]] [[_]] rfl rfl [0,1] rfl rfl
 refine qk K8.2 K8.1 (v (vl 1 _ eD rfl rfl rfl (cZ hM rfl (nC m (σ:=(List Int)×Int) (τ:=Option cB) (λg s=> [(g,.tok 5 1 ((s.1:List Int).length*1)),(some k2,.obj 62 (aD p0))]) (λg s=>(g=none→s.1= [])) (λg s=>.c 4 (ow g 1 (List.map dD s.1)) (.c 51 (.sl none 35 (List.map aH p0.Chunks)) (.c 52 (nZ (p0.Chunks.length:Int)) (.c 53 (nZ s.2) .nil)))) tg4 t4 (lx (.k4 .nil)) ?_ ?_))))
 rintro tg5 ⟨q0,q1⟩ x t5 m
 replace m:HK w p0 q0 q1=some x:=m
 unfold HK at m
 refine v (v ?_)
 apply vi m <;> intro c1 m
 refine v (v (v (vx m eU rfl rfl λx0 _ m=>va (.agg (aH x0)) lS rfl rfl (ve λu=>bD (bJ jX++(KK:List AV)) u nE rfl rfl λk1507 K9=>qk K9 rfl (ve λu=>aK 0 (aH x0) u rfl rfl rfl rfl xD rfl rfl λK10=>qk K10 rfl (v (bU (DY rU rfl) ?_)))))))
 obtain⟨z1,Z1,m⟩:=aC m
 refine ve λu=>fF (c:=dD) 1 Z1 jH rfl rfl rfl t5 u (w6 (a9 0 u rfl) rfl rfl) λtg6 t6 K11=>qk K11 rfl (v (vz [(1000000,some k1507,.obj 44 (aH x0))] mixed (λu=>⟨λ_=>aI 0 u rfl,trivial⟩) λu=>zC 0 rfl (eW (ow _ _ _) rfl) (zF 1 rfl jO rfl (zL 2 0 (.sl none 1 (List.map dD x0.Data)) rfl lH rfl rfl rfl (zC 3 rfl (tT kK rfl) (zF 5 rfl jO rfl (zL 6 0 (.sl none 1 (List.map dD x0.Data)) rfl lH rfl rfl rfl ?_)))))))
 obtain⟨y3,Y3,m⟩:=aC m
 refine zE 4 rfl ?_
 have ho3:=lV (A:= [(tg6,.tok 5 1 ((z1:List Int).length*1))]) (R:= [(some k1507,.obj 44 (aH x0)),(some k2,.obj 62 (aD p0))]) u [[_], [_], [_]] rfl [1] [0,2] rfl rfl rfl
 refine dA ho3.1 (cK (DA _ t6 ho3.2.2 Y3) rfl DB rfl ?_)
 rintro x h' ⟨tg7,t7,K12,rfl,rfl⟩
 have K13:=lW (L':= [(some k1507,.obj 44 (aH x0)),(tg7,.tok 5 1 ((y3:List Int).length*1)),(some k2,.obj 62 (aD p0))]) ho3.2.1 K12 [[_]] [[_], [_]] rfl rfl [1,0,2] rfl rfl
 refine kJ K13.1 (⟨⟨λ_=>aI 0 K13.2 rfl,trivial⟩, ?_⟩)
 obtain⟨z2,Z2,m⟩:=aC m
 refine zE 7 rfl (fF (c:=dD) 1 Z2 jH rfl rfl rfl t7 K13.2 rfl λtg8 t8 K15=>⟨⟨λ_=>aI 0 K15 rfl,trivial⟩, ?_⟩)
 exact zC 8 rfl (iB (ow _ _ _) rfl) (zX (qk (f:=.c 4 _ (.c 68 _ (.c 65 _ (.c 67 _ (.c 66 _ (PP 64 _ _ _ _ _)))))) K15 rfl (v (eY m tg8 t8 (kP [1,2] rfl rfl (.k4 .nil))))))
 exact v (lA m tg5 t5 (lx (.k4 .nil)))
 rintro tg9 ⟨r0,r1⟩ t9 m
 exact eY m tg9 t9 (lx (.cons (bH.refl _ _) .nil))
 refine v (o6 m (σ:=(List Int)) (τ:=Option cB) (λg s=> [(g,.tok 5 1 ((s:List Int).length*1)),(some k2,.obj 62 (aD p0))]) (λg s=>(g=none→s= [])) (λg s=>.c 4 (ow g 1 (List.map dD s)) .nil) (λx m=> ?_) ?_)
 refine v ?_
 apply vi m <;> intro c2 m
 refine v (vl 1 _ bX rfl rfl rfl ?_)
 obtain⟨y4,Y4,m⟩:=aC m
 refine ve λu=> ?_
 have ho4:=lV (A:= [(tg0,.tok 5 1 ((([IntKind.wrap .u8 p0.Kind]:List Int):List Int).length*1))]) (R:= [(some k2,.obj 62 (aD p0))]) u [[_], [_]] rfl [0] [1] rfl rfl rfl
 refine dA ho4.1 (cK (DA _ t0 ho4.2.2 Y4) rfl DB rfl ?_)
 rintro x h' ⟨tg10,t10,K16,rfl,rfl⟩
 have K17:=lW (L':= [(tg10,.tok 5 1 ((y4:List Int).length*1)),(some k2,.obj 62 (aD p0))]) ho4.2.1 K16 [[_]] [[_]] rfl rfl [0,1] rfl rfl
 exact qk K17.2 K17.1 (eY m tg10 t10 (lx (.cons (bH.refl _ _) .nil)))
 refine v (o6 m (σ:=(List Int)) (τ:=Option cB) (λg s=> [(g,.tok 5 1 ((s:List Int).length*1)),(some k2,.obj 62 (aD p0))]) (λg s=>(g=none→s= [])) (λg s=>.c 4 (ow g 1 (List.map dD s)) .nil) (λx m=> ?_) ?_)
 refine v ?_
 apply vi m <;> intro c3 m
 refine v (vl 1 _ bX rfl rfl rfl (vl 1 _ jZ rfl rfl rfl (cZ n3 rfl (bU (eO (List.map dD ([IntKind.wrap .u8 p0.Vol,IntKind.wrap .u8 (p0.Items.length:Int)]:List Int)) jH rfl rfl rfl rfl) ?_))))
 obtain⟨z3,Z3,m⟩:=aC m
 refine ve λu=>fF (c:=dD) 0 Z3 jH rfl rfl rfl t0 u rfl λtg11 t11 K18=>qk K18 rfl (v (vl 1 _ jZ rfl rfl rfl (cZ n3 rfl (nC m (σ:=(List Int)×Int) (τ:=Option cB) (λg s=> [(g,.tok 5 1 ((s.1:List Int).length*1)),(some k2,.obj 62 (aD p0))]) (λg s=>(g=none→s.1= [])) (λg s=>.c 4 (ow g 1 (List.map dD s.1)) (.c 89 (.sl none 37 (List.map aY p0.Items)) (.c 90 (nZ (p0.Items.length:Int)) (.c 91 (nZ s.2) .nil)))) tg11 t11 (lx (.k4 .nil)) ?_ ?_))))
 rintro tg13 ⟨q2,q3⟩ x t12 m
 replace m:HM w p0 q2 q3=some x:=m
 unfold HM at m
 refine v (v ?_)
 apply vi m <;> intro c4 m
 refine v (v (v (vx m rT rfl rfl λx1 _ m=>va (.agg (aY x1)) GA rfl rfl (ve λu=>bD (([nZ 0]:List AV)++bJ jX++(HP:List AV)) u S5 rfl rfl λk2640 K19=>qk K19 rfl (ve λu=>aK 0 (aY x1) u rfl rfl rfl rfl S4 rfl rfl λK20=>qk K20 rfl (v (vz [(1000000,some k2640,.obj 38 (aY x1))] mixed (λu=>⟨λ_=>aI 0 u rfl,trivial⟩) λu=>zC 0 rfl (eW (ow _ _ _) rfl) (zF 1 rfl lR rfl (zL 2 0 (nZ x1.Kind) rfl bX rfl rfl rfl (zC 3 rfl (I7 WZ ti5 rfl) (zC 4 rfl (eO (List.map dD ([IntKind.wrap .u8 x1.Kind]:List Int)) jH rfl rfl rfl rfl) (zF 6 rfl tY rfl (zC 7 rfl (DY rU rfl) ?_)))))))))))))
 obtain⟨z4,Z4,m⟩:=aC m
 refine zE 5 rfl (fF (c:=dD) 1 Z4 jH rfl rfl rfl t12 u rfl λtg14 t14 K21=>⟨⟨λ_=>aI 0 K21 rfl,trivial⟩, ?_⟩)
 obtain⟨z5,Z5,m⟩:=aC m
 refine zE 8 rfl (fF (c:=dD) 1 Z5 jH rfl rfl rfl t14 K21 (w6 (a9 0 K21 rfl) rfl rfl) λtg15 t15 K22=>⟨⟨λ_=>aI 0 K22 rfl,trivial⟩, ?_⟩)
 refine zC 9 rfl (iB (ow _ _ _) rfl) (zX (qk (f:=.c 4 _ (.c 103 _ (.c 100 _ (.c 102 _ (.c 101 _ (fq5 99 _ _ _ _ _ _)))))) K22 rfl (v (vz [(1000000,some k2640,.obj 38 (aY x1))] mixed (λu=>⟨λ_=>aI 0 u rfl,trivial⟩) λu=>zC 0 rfl (eW (ow _ _ _) rfl) (zF 1 rfl kQ rfl (zL 2 0 (nZ x1.Seq) rfl bX rfl rfl rfl (zF 4 rfl tZ rfl (zL 5 0 (nZ x1.Of) rfl bX rfl rfl rfl (zF 7 rfl GB rfl (zL 8 0 (nZ x1.Off) rfl bX rfl rfl rfl (zF 10 rfl GC rfl (zL 11 0 (nZ x1.Len) rfl bX rfl rfl rfl ?_))))))))))))
 obtain⟨y5,Y5,m⟩:=aC m
 refine zE 3 rfl ?_
 have ho5:=lV (A:= [(tg15,.tok 5 1 ((z5:List Int).length*1))]) (R:= [(some k2640,.obj 38 (aY x1)),(some k2,.obj 62 (aD p0))]) u [[_], [_], [_]] rfl [1] [0,2] rfl rfl rfl
 refine dA ho5.1 (cK (DA _ t15 ho5.2.2 Y5) rfl DB rfl ?_)
 rintro x h' ⟨tg16,t16,K23,rfl,rfl⟩
 have K24:=lW (L':= [(some k2640,.obj 38 (aY x1)),(tg16,.tok 5 1 ((y5:List Int).length*1)),(some k2,.obj 62 (aD p0))]) ho5.2.1 K23 [[_]] [[_], [_]] rfl rfl [1,0,2] rfl rfl
 refine kJ K24.1 (⟨⟨λ_=>aI 0 K24.2 rfl,trivial⟩, ?_⟩)
 obtain⟨y6,Y6,m⟩:=aC m
 refine zE 6 rfl ?_
 have ho6:=lV (A:= [(tg16,.tok 5 1 ((y5:List Int).length*1))]) (R:= [(some k2640,.obj 38 (aY x1)),(some k2,.obj 62 (aD p0))]) K24.2 [[_], [_], [_]] rfl [1] [0,2] rfl rfl rfl
 refine dA ho6.1 (cK (DA _ t16 ho6.2.2 Y6) rfl DB rfl ?_)
 rintro x h' ⟨tg17,t17,K25,rfl,rfl⟩
 have K26:=lW (L':= [(some k2640,.obj 38 (aY x1)),(tg17,.tok 5 1 ((y6:List Int).length*1)),(some k2,.obj 62 (aD p0))]) ho6.2.1 K25 [[_]] [[_], [_]] rfl rfl [1,0,2] rfl rfl
 refine kJ K26.1 (⟨⟨λ_=>aI 0 K26.2 rfl,trivial⟩, ?_⟩)
 obtain⟨y7,Y7,m⟩:=aC m
 refine zE 9 rfl ?_
 have ho7:=lV (A:= [(tg17,.tok 5 1 ((y6:List Int).length*1))]) (R:= [(some k2640,.obj 38 (aY x1)),(some k2,.obj 62 (aD p0))]) K26.2 [[_], [_], [_]] rfl [1] [0,2] rfl rfl rfl
 refine dA ho7.1 (cK (DA _ t17 ho7.2.2 Y7) rfl DB rfl ?_)
 rintro x h' ⟨tg18,t18,K27,rfl,rfl⟩
 have K28:=lW (L':= [(some k2640,.obj 38 (aY x1)),(tg18,.tok 5 1 ((y7:List Int).length*1)),(some k2,.obj 62 (aD p0))]) ho7.2.1 K27 [[_]] [[_], [_]] rfl rfl [1,0,2] rfl rfl
 refine kJ K28.1 (⟨⟨λ_=>aI 0 K28.2 rfl,trivial⟩, ?_⟩)
 obtain⟨y8,Y8,m⟩:=aC m
 refine zE 12 rfl ?_
 have ho8:=lV (A:= [(tg18,.tok 5 1 ((y7:List Int).length*1))]) (R:= [(some k2640,.obj 38 (aY x1)),(some k2,.obj 62 (aD p0))]) K28.2 [[_], [_], [_]] rfl [1] [0,2] rfl rfl rfl
 refine dA ho8.1 (cK (DA _ t18 ho8.2.2 Y8) rfl DB rfl ?_)
 rintro x h' ⟨tg19,t19,K29,rfl,rfl⟩
 have K30:=lW (L':= [(some k2640,.obj 38 (aY x1)),(tg19,.tok 5 1 ((y8:List Int).length*1)),(some k2,.obj 62 (aD p0))]) ho8.2.1 K29 [[_]] [[_], [_]] rfl rfl [1,0,2] rfl rfl
 refine kJ K30.1 (⟨⟨λ_=>aI 0 K30.2 rfl,trivial⟩, ?_⟩)
 exact zC 13 rfl (iB (ow _ _ _) rfl) (zX (qk (f:=.c 4 _ (.c 116 _ (.c 113 _ (.c 110 _ (.c 107 _ (.c 115 _ (.c 114 _ (.c 112 _ (.c 111 _ (.c 109 _ (.c 108 _ (.c 106 _ (.c 105 _ (.c 104 _ _)))))))))))))) K30.2 rfl (v (eY m tg19 t19 (kP [1,2] rfl rfl (.k4 .nil))))))
 exact v (lA m tg13 t12 (lx (.k4 .nil)))
 rintro tg20 ⟨r2,r3⟩ t20 m
 exact eY m tg20 t20 (lx (.cons (bH.refl _ _) .nil))
 refine v (vl 1 _ bX rfl rfl rfl (bU (eO (List.map dD ([IntKind.wrap .u8 p0.Vol]:List Int)) jH rfl rfl rfl rfl) ?_))
 obtain⟨z6,Z6,m⟩:=aC m
 exact ve λu=>fF (c:=dD) 0 Z6 jH rfl rfl rfl t0 u rfl λtg21 t21 K31=>qk K31 rfl (eY m tg21 t21 (lx (.cons (bH.refl _ _) .nil)))
 rintro tg22 j0 t22 m
 exact eY m tg22 t22 (lx (.cons (bH.refl _ _) .nil))
 rintro tg23 j1 t23 m
 exact eY m tg23 t23 (lx (.cons (bH.refl _ _) .nil))
 rintro tg24 j2 t24 m
 refine v ?_
 obtain⟨_,Y9,m⟩:=aC m
 refine ve λu=>BT (t:=118) (.sl none 1 (List.map dD j2)) (aS (List.eraseIdx_sublist _ 0) u).1 (mP _ 0 t24 u rfl (.refl _)) (cK (W96 _ Y9) rfl P3 rfl ?_)
 rintro x h' ⟨tg25,t25,K32,rfl,rfl⟩
 refine qk (bV.co ((aS (List.eraseIdx_sublist _ 0) u).2) K32) (iU _ _ _) (v ?_)
 cases m
 exact vr λu=>dX.of2 (.inl rfl) (fU _ _ (ow _ _ _) rfl) (fU _ _ (.sc (.int _ _)) rfl) (aS (List.nil_sublist _) u).1 ((eZ _ 0 t25 u rfl)) (bH.refl _ _) ⟨rfl,rfl⟩
theorem aHB:aO Tryz.prog 40=true:=by kernel_rfl
def U2 (m:Nat):Option (Bool):=
 (M32 m ([0]:List Int)).bind λy3=>(DH m y3.1 ({ Kind:=1,Snap:=({ Seq:=0,Man:=({ Name:=(ByteArray.mk #[97]),Parts:= []}:bB),Locs:= []}:aG),Chunks:= [],Seq:=0,Vol:=0,Items:= []}:aP)).bind λy0=>(M40 m ({ Kind:=1,Snap:=({ Seq:=0,Man:=({ Name:=(ByteArray.mk #[97]),Parts:= []}:bB),Locs:= []}:aG),Chunks:= [],Seq:=0,Vol:=0,Items:= []}:aP)).bind λy1=>after (if (y3.2==0)=true then (if (y0.2==0)=true then (if (y1.2==0)=true then (if ((y0.1.Snaps.length:Int)==1)=true then (if (y0.1.Seq==1)=true then (some (.brk ((y1.1.length:Int)==14))) else some (.brk false)) else some (.brk false)) else some (.brk false)) else some (.brk false)) else some (.brk false):Option (Lp (Bool) (Bool))) λj0=>some j0
theorem W37 {w:Nat} {o:Bool} (h:aF) (m:U2 w=some o):
 aL Tryz.prog 37 [] h (λr h'=>r= .sc (.bool o)∧h'=h):=by
 refine fN 53 [.tmp 0] Tryz.func37 rfl rfl rfl rfl ?_
 unfold U2 at m
 refine v (v (bU (eO (List.map iY ([0]:List Int)) PU rfl rfl rfl rfl) (vk W32 aE2 m rfl rfl λy3 m=>ve λu=>bD (gR) u pE rfl rfl λk5 K6=>qk K6 rfl (ve λu=>aK 0 (aE y3.1) u rfl rfl rfl rfl lQ rfl rfl λK8=>qk K8 rfl (v (bU (fG ([.sc (.string (ByteArray.mk #[97])),sZ]) PZ rfl) (bU (fG ([nZ 0,.sc (.string (ByteArray.mk #[97])),sZ,sZ]) S7 rfl) (bU (fG ([nZ 1,nZ 0,.sc (.string (ByteArray.mk #[97])),sZ,sZ,sZ,nZ 0,nZ 0,sZ]) B1 rfl) (ve λu=>bD (vR) u JM rfl rfl λk10 K0=>qk K0 rfl (ve λu=>aK 0 ([nZ 1,nZ 0,.sc (.string (ByteArray.mk #[97])),sZ,sZ,sZ,nZ 0,nZ 0,sZ]) u rfl rfl rfl rfl uC rfl rfl λK1=>qk K1 rfl (v (vl 1 (.agg (aE y3.1)) eV rfl rfl rfl (vl 0 (.agg ([nZ 1,nZ 0,.sc (.string (ByteArray.mk #[97])),sZ,sZ,sZ,nZ 0,nZ 0,sZ])) n7 rfl rfl rfl ?_)))))))))))))
 obtain⟨y0,Y0,m⟩:=aC m
 refine bU (bZ (pT (.cons (bH.refl _ _) (.cons (bH.agg (.k3 (.cons (aX _) (.cons (aX _) (.cons (aX _) (.k2 (.cons (aX _) .nil))))))) .nil)) (W29 _ Y0)) rfl aAP rfl) (ve λu=>bD (gR) u pE rfl rfl λk17 K2=>qk K2 rfl (ve λu=>aK 0 (aE y0.1) u rfl rfl rfl rfl lQ rfl rfl λK3=>qk K3 rfl (v (vl 1 (.agg ([nZ 1,nZ 0,.sc (.string (ByteArray.mk #[97])),sZ,sZ,sZ,nZ 0,nZ 0,sZ])) n7 rfl rfl rfl ?_))))
 obtain⟨_,Y1,m⟩:=aC m
 refine bU (bZ (pT (.cons (bH.agg (.k3 (.cons (aX _) (.cons (aX _) (.cons (aX _) (.k2 (.cons (aX _) .nil))))))) .nil) (W40 _ Y1)) rfl aHB rfl) (vs (fB m (σ:=Bool) (λs=> [(some k17,.obj 30 (aE y0.1)),(some k10,.obj 62 ([nZ 1,nZ 0,.sc (.string (ByteArray.mk #[97])),sZ,sZ,sZ,nZ 0,nZ 0,sZ])),(some k5,.obj 30 (aE y3.1))]) (λs=>.c 0 (.sc (.bool s)) .nil) (λx m=> ?_) ?_))
 refine v ?_
 apply vi m <;> intro b0 m
 rw[b0]
 apply vi m <;> intro b1 m
 rw[b1]
 apply vi m <;> intro b2 m
 rw[b2]
 refine vl 0 _ eK rfl rfl rfl (cZ iJ rfl ?_)
 apply vi m <;> intro b3 m
 rw[b3]
 refine vl 0 _ bX rfl rfl rfl ?_
 apply vi m <;> intro b4 m
 rw[b4]
 exact cZ kK rfl (iN m)
 rw[b4]
 exact iN m
 rw[b3]
 exact iN m
 rw[b2]
 exact iN m
 rw[b1]
 exact iN m
 rw[b0]
 exact iN m
 rintro _ j0 m
 refine v ?_
 obtain rfl:=eB m
 exact dQ rfl
theorem U3:aO Tryz.prog 37=true:=by kernel_rfl
open Go.Vm
theorem U4:U2 1000=some true:=by decide+kernel
theorem Lk.filt {vs:List aR} {l:List bI} (h:Lk vs l) (q:bI→Bool):Lk vs (l.filter q):=
 ⟨Nat.le_trans (List.length_filter_le _ _) h.n,λx hx=>h.a x (List.mem_filter.1 hx).1,h.o.sublist (List.filter_sublist)⟩
theorem Q4 {vs:List aR} {x:bI} {v:Nat} {z:aR} (h:EI vs x=true) (hv:x.Vol.toNat≠v):EI (vs.set v z) x=true:=by
 unfold EI at*
 rw[List.length_set,List.getElem?_set_ne (λe=>hv e.symm)]
 exact h
theorem IT {vs:List aR} {x:bI} (h:EI vs x=true):0≤x.Vol∧∃v,vs[x.Vol.toNat]? =some v∧v.State=2∧1≤x.File∧x.File≤v.Files:=by
 unfold EI at h
 simp only[Bool.and_eq_true,gW,decide_eq_true_eq] at h
 obtain⟨⟨⟨h1,h2⟩, -⟩, -⟩:=h
 refine⟨h1.1, ?_⟩
 cases e:vs[x.Vol.toNat]? with
 | none=>rw[e] at h2; cases h2
 | some v=>
  rw[e] at h2
  simp only[Bool.and_eq_true,beq_iff_eq,decide_eq_true_eq] at h2
  exact⟨v,rfl,h2.1,h2.2.1,h2.2.2⟩
theorem Lk.set {vs:List aR} {l:List bI} {v:Int} {z:aR} (h:Lk vs l) (h0:0≤v) (hv:∀x∈l,x.Vol≠v):Lk (vs.set v.toNat z) l:=
 ⟨h.n,λx hx=>Q4 (h.a x hx) (by have:=(IT (h.a x hx)).1; have:=hv x hx; omega),h.o⟩
theorem Lk.lf {vs:List aR} {l:List bI} {v:Int} {z:aR} (h:Lk vs l) (h0:0≤v):Lk (vs.set v.toNat z) (lf v l):=
 Lk.set (h.filt _) h0 λx hx=>by
  have:=(List.mem_filter.1 hx).2
  simpa using this
theorem Lk.off {vs:List aR} {l:List bI} {v:Int} {z:aR} (h:Lk vs l) (hz:vs[v.toNat]? =some z) (hs:z.State≠2):∀x∈l,x.Vol≠v:=λx hx e=>by
 obtain⟨-,y,hy,h2, -⟩:=IT (h.a x hx)
 rw[e,hz] at hy
 obtain rfl:=Option.some.inj hy
 exact hs h2
theorem N9 {c:aB} {v:Int} {x:aR} (h:Sm c) (hx:c.Vols[v.toNat]? =some x):Sm (ret c v x):=by
 obtain⟨g0,g1,g2,g3,g4⟩:=h.g
 have lfm:∀ {l:List bI} {y},y∈lf v l→y∈l:=λhy=>(List.mem_filter.1 hy).1
 have lfl:∀(l:List bI),(lf v l).length≤l.length:=λl=>List.length_filter_le _ _
 refine⟨⟨g0, ?_, ?_, ?_, ?_⟩, ?_, ?_, ?_, ?_, ?_, ?_, ?_, ?_⟩
 ·intro s hs
  obtain⟨s0,h0,rfl⟩:=List.mem_map.1 hs
  exact⟨(g1 s0 h0).1,(g1 s0 h0).2.1,λy hy=>(g1 s0 h0).2.2 y (lfm hy)⟩
 ·intro s hs
  obtain⟨s0,h0,rfl⟩:=List.mem_map.1 (List.mem_filter.1 hs).1
  exact⟨(g2 s0 h0).1,(g2 s0 h0).2.1,(g2 s0 h0).2.2.1,λy hy=>(g2 s0 h0).2.2.2 y (lfm hy)⟩
 ·intro s hs
  obtain⟨s0,h0,rfl⟩:=List.mem_map.1 (List.mem_filter.1 hs).1
  exact⟨(g3 s0 h0).1,(g3 s0 h0).2.1,λy hy=>(g3 s0 h0).2.2 y (lfm hy)⟩
 ·intro s hs
  rcases List.mem_or_eq_of_mem_set hs with h1 | rfl
  ·exact g4 s h1
  ·have:=g4 x (List.mem_of_getElem? hx)
   exact⟨this.1,this.2.1,(⟨by decide,by decide⟩:gI 3),(⟨by decide,by decide⟩:gI 0)⟩
 ·simpa [ret] using h.sn
 ·exact Nat.le_trans (List.length_filter_le _ _) (by simpa using h.ch)
 ·exact Nat.le_trans (List.length_filter_le _ _) (by simpa using h.ex)
 ·simpa [ret] using h.vo
 ·intro s hs
  obtain⟨s0,h0,rfl⟩:=List.mem_map.1 hs
  exact Nat.le_trans (lfl _) (h.sl s0 h0)
 ·intro s hs
  obtain⟨s0,h0,rfl⟩:=List.mem_map.1 (List.mem_filter.1 hs).1
  exact⟨Nat.le_trans (lfl _) (h.cl s0 h0).1,(h.cl s0 h0).2⟩
 ·intro s hs
  obtain⟨s0,h0,rfl⟩:=List.mem_map.1 (List.mem_filter.1 hs).1
  exact Nat.le_trans (lfl _) (h.el s0 h0)
 ·intro s hs
  obtain⟨s0,h0,rfl⟩:=List.mem_map.1 hs
  exact h.man s0 h0
theorem U5 {c:aB} {v:Int} {x:aR} (h:Sm c) (hx:c.Vols[v.toNat]? =some x) (he:x.Epoch≤1048576∧0≤x.Epoch):Sm (rel c v x):=by
 obtain⟨g0,g1,g2,g3,g4⟩:=h.g
 refine { h with g:=⟨g0,g1,g2,g3, ?_⟩,vo:=by simpa [rel] using h.vo}
 intro s hs
 rcases List.mem_or_eq_of_mem_set hs with h1 | rfl
 ·exact g4 s h1
 ·have:=g4 x (List.mem_of_getElem? hx)
  exact⟨this.1,⟨by simp only; omega,by simp only; omega⟩,(⟨by decide,by decide⟩:gI 1),this.2.2.2⟩
open Go.Vm
theorem KD {F:Nat} {c:aB} {d:aP} {x:aR} (hF:1000≤F) (h:Sm c) (hg:Gd c) (hk:d.Kind=4) (h0:0≤d.Vol) (hx:c.Vols[d.Vol.toNat]? =some x):
    DH F c d=some (if x.State=2 then (if iX (ret c d.Vol x) then (ret c d.Vol x,0) else (dJ,1)) else (dJ,1)):=by
  have hk2:jV.find? (λe=>e.1==d.Kind)=some (d.Kind,75):=by rw[hk]; rfl
  have go:∀(e:aB) (n:Int),gO F 75 c d=some (e,n)→(n=0→Sm e)→_:=λe n=>n29 (n:=n) hF h (lJ.2 hg) hk2
  have e0:gO F 75 c d=(VY F c d).bind λo=>some ({ c with Snaps:=o.2.1,Chunks:=o.2.2.1,Exps:=o.2.2.2.1,Vols:=o.2.2.2.2},o.1):=by
    unfold gO
    simp only[if_neg (show ¬(75:Nat)=72 by decide),if_neg (show ¬(75:Nat)=73 by decide),if_neg (show ¬(75:Nat)=74 by decide),if_true]
  rw[n75 hF h h0 hx] at e0
  by_cases e1:x.State=2
  · rw[if_pos e1] at e0 ⊢
    rw[go (ret c d.Vol x) 0 e0 λ_=>N9 h hx]
    rfl
  · rw[if_neg e1] at e0 ⊢
    rw[go _ _ e0 nofun]
    rfl
theorem HN {F:Nat} {c:aB} {d:aP} {x:aR} (hF:1000≤F) (h:Sm c) (hg:Gd c) (hk:d.Kind=5) (h0:0≤d.Vol) (hx:c.Vols[d.Vol.toNat]? =some x) (he:0≤x.Epoch∧x.Epoch≤1048576) (hs:Sm (rel c d.Vol x)):
    DH F c d=some (if x.State=3 then (if iX (rel c d.Vol x) then (rel c d.Vol x,0) else (dJ,1)) else (dJ,1)):=by
  have hk2:jV.find? (λe=>e.1==d.Kind)=some (d.Kind,76):=by rw[hk]; rfl
  have go:∀(e:aB) (n:Int),gO F 76 c d=some (e,n)→(n=0→Sm e)→_:=λe n=>n29 (n:=n) hF h (lJ.2 hg) hk2
  have e0:gO F 76 c d=(VV F c d).bind λo=>some ({ c with Vols:=o.2},o.1):=by
    unfold gO
    simp only[if_neg (show ¬(76:Nat)=72 by decide),if_neg (show ¬(76:Nat)=73 by decide),if_neg (show ¬(76:Nat)=74 by decide),if_neg (show ¬(76:Nat)=75 by decide),if_true]
  rw[n76 h0 hx he] at e0
  by_cases e1:x.State=3
  · rw[if_pos e1] at e0 ⊢
    rw[go (rel c d.Vol x) 0 e0 λ_=>hs]
    rfl
  · rw[if_neg e1] at e0 ⊢
    rw[go _ _ e0 nofun]
    rfl
open Go.Vm
theorem Mk.wd {c:aB} {d:aP} (h:Mk c d) (hG:Gd c) (hd:J8 d):Wd d:=by
 refine⟨hd.it,λi hi=> ?_⟩
 obtain⟨-,a2,a3,a4⟩:=hd.iti i hi
 refine⟨?_, ?_,a2,a3,a4⟩
 ·rcases h.it with h1 | ⟨s,hs,e⟩
  ·exact(h1.a i hi).id
  ·rw[e] at hi
   rw[List.mem_singleton.1 hi]
   exact NV
 ·rcases h.it with h1 | ⟨s,hs,e⟩
  ·exact(h1.a i hi).q
  ·rw[e] at hi
   rw[List.mem_singleton.1 hi]
   have:=hG.q
   simpa [gW] using this
inductive Eff (c:aB) (d:aP) (e:aB):Prop
 | add (k:d.Kind=1) (q:d.Snap.Seq=c.Seq∧pQ d.Chunks=true) (n:c.Snaps.any (λs=>s.Man.Name.toList==d.Snap.Man.Name.toList)=false) (w:e=ad c d)
 | drop (k:d.Kind=2) (q:c.Snaps.any (λs=>s.Seq==d.Seq)=true) (w:e=R5 c d.Seq)
 | wrote (k:d.Kind=3) (x:aR) (hx:c.Vols[d.Vol.toNat]? =some x) (q:oX x d=true) (p:d.Items.all (oP c)=true) (w:e=C6 c d x)
 | ret (k:d.Kind=4) (x:aR) (hx:c.Vols[d.Vol.toNat]? =some x) (q:x.State=2) (w:e=ret c d.Vol x)
 | rel (k:d.Kind=5) (x:aR) (hx:c.Vols[d.Vol.toNat]? =some x) (q:x.State=3) (w:e=rel c d.Vol x)
theorem U6 {c:aB} {v:Int} (h:0≤v∧v < c.Vols.length):∃x,c.Vols[v.toNat]? =some x:=⟨_,List.getElem?_eq_getElem (show v.toNat < c.Vols.length by omega)⟩
theorem U7 {c:aB} (hG:Gd c) {n:Nat} {x:aR} (hx:c.Vols[n]? =some x):0≤x.Epoch∧x.Epoch≤1048576:=by
 have:=hG.v x (List.mem_of_getElem? hx)
 unfold oG gW at this
 simp only[Bool.and_eq_true,decide_eq_true_eq] at this
 exact this.1.2
theorem aHD {F:Nat} {c:aB} {d:aP} (hk:d.Kind=0):DH F c d=some (dJ,1):=by
 have hk2:jV.find? (λe=>e.1==d.Kind)=none:=by rw[hk]; rfl
 unfold DH
 rw[hk2]
theorem U8 {F:Nat} {c:aB} {d:aP} (hF:1000≤F) (h:Sm c) (hg:Gd c) (hd:J8 d) (hm:Mk c d):
    ∃e n,DH F c d=some (e,n)∧((n≠0∧e=dJ)∨(n=0∧Sm e∧Gd e∧Eff c d e)):=by
  have hk:=hm.k
  have no:∀n:Int,n≠0→DH F c d=some (dJ,n)→∃e n,DH F c d=some (e,n)∧((n≠0∧e=dJ)∨(n=0∧Sm e∧Gd e∧Eff c d e)):=λn hn e=>⟨_,_,e,.inl ⟨hn,rfl⟩⟩
  have yes:∀e,(iX e=true→Sm e∧Eff c d e)→DH F c d=some (if iX e=true then (e,0) else (dJ,1))→∃e n,DH F c d=some (e,n)∧((n≠0∧e=dJ)∨(n=0∧Sm e∧Gd e∧Eff c d e)):=λe he h2=>by
    by_cases hge:iX e=true
    · rw[if_pos hge] at h2
      exact⟨_,_,h2,.inr ⟨rfl,(he hge).1,lJ.1 hge,(he hge).2⟩⟩
    · rw[if_neg hge] at h2
      exact no 1 (by decide) h2
  obtain⟨x,hx⟩:=U6 hm.v
  by_cases k0:d.Kind=0
  · exact no 1 (by decide) (aHD k0)
  by_cases k1:d.Kind=1
  · have:=UR hF h hg hd k1
    by_cases c1:d.Snap.Seq=c.Seq∧pQ d.Chunks=true
    · rw[if_pos c1] at this
      cases c2:c.Snaps.any (λs=>s.Man.Name.toList==d.Snap.Man.Name.toList) with
      | true=>rw[c2,if_pos rfl] at this; exact no 9 (by decide) this
      | false=>rw[c2,if_neg (by decide)] at this; exact yes _ (λ_=>⟨SA h hg hd,.add k1 c1 c2 rfl⟩) this
    · rw[if_neg c1] at this; exact no 1 (by decide) this
  by_cases k2:d.Kind=2
  · have:=QX hF h hg k2
    by_cases c1:c.Snaps.any (λs=>s.Seq==d.Seq)=true
    · rw[if_pos c1] at this; exact yes _ (λ_=>⟨NZ h,.drop k2 c1 rfl⟩) this
    · rw[if_neg c1] at this; exact no 8 (by decide) this
  by_cases k3:d.Kind=3
  · have:=N7 hF h hg k3 (hm.wd hg hd) hd.vol hm.v.1 hx
    by_cases c1:oX x d=true
    · rw[if_pos c1] at this
      by_cases c2:d.Items.all (oP c)=true
      · rw[if_pos c2] at this
        exact yes _ (λ_=>⟨N6 h hg (hm.wd hg hd) hd.vol hx λi hi=>by
          unfold oX at c1
          simp only[Bool.and_eq_true,Bool.not_eq_true',List.any_eq_false,Bool.or_eq_true,decide_eq_true_eq,not_or,Int.not_lt] at c1
          exact c1.2 i hi,.wrote k3 x hx c1 c2 rfl⟩) this
      · rw[if_neg c2] at this; exact no 8 (by decide) this
    · rw[if_neg c1] at this; exact no 1 (by decide) this
  by_cases k4:d.Kind=4
  · have:=KD hF h hg k4 hm.v.1 hx
    by_cases c1:x.State=2
    · rw[if_pos c1] at this; exact yes _ (λ_=>⟨N9 h hx,.ret k4 x hx c1 rfl⟩) this
    · rw[if_neg c1] at this; exact no 1 (by decide) this
  · have k5:d.Kind=5:=by omega
    have ep:=U7 hg hx
    have hs:=U5 h hx ⟨ep.2,ep.1⟩
    have:=HN hF h hg k5 hm.v.1 hx ep hs
    by_cases c1:x.State=3
    · rw[if_pos c1] at this; exact yes _ (λ_=>⟨hs,.rel k5 x hx c1 rfl⟩) this
    · rw[if_neg c1] at this; exact no 1 (by decide) this
open Go.Vm
structure Rl (v:Int) (c e:aB):Prop where
 q:c.Seq≤e.Seq
 s:∃f:aG→aG,(∀s,(f s).Seq=s.Seq∧(f s).Man=s.Man)∧e.Snaps=c.Snaps.map f
 k:∃g:aA→aA,(∀y,(g y).Id=y.Id∧(∀l∈y.Locs,l∈(g y).Locs)∧∀l∈(g y).Locs,l∈y.Locs∨l.Vol=v)∧e.Chunks=c.Chunks.map g
theorem Rl.refl (v:Int) (c:aB):Rl v c c:=⟨Int.le_refl _,⟨id,λ_=>⟨rfl,rfl⟩,by simp⟩,⟨id,λ_=>⟨rfl,λ_ h=>h,λ_ h=>.inl h⟩,by simp⟩⟩
theorem Rl.trans {v:Int} {a b c:aB} (h:Rl v a b) (k:Rl v b c):Rl v a c:=by
 obtain⟨h1,⟨f,hf,ef⟩,g,hg,eg⟩:=h
 obtain⟨k1,⟨f',hf',ef'⟩,g',hg',eg'⟩:=k
 refine⟨Int.le_trans h1 k1,⟨f' ∘ f,λs=>⟨(hf' _).1.trans (hf s).1,(hf' _).2.trans (hf s).2⟩,by rw[ef',ef,List.map_map]⟩,g' ∘ g,λy=>⟨(hg' _).1.trans (hg y).1,λl hl=>(hg' _).2.1 l ((hg y).2.1 l hl),λl hl=> ?_⟩,by rw[eg',eg,List.map_map]⟩
 rcases(hg' _).2.2 l hl with h | h
 ·exact(hg y).2.2 l h
 ·exact .inr h
theorem U9 {p:Int} {c:aB} {i:bE} {a:bI}:Rl a.Vol c (yU p c i a):=by
 refine⟨?_,⟨KJ i a,wM i a,rfl⟩,λy=>KC p i (HF i a y),λy=> ?_,by show (c.Chunks.map _).map _=_; rw[List.map_map]; rfl⟩
 ·show c.Seq≤if i.Kind=3 then max c.Seq (i.Seq+1) else c.Seq
  split <;> omega
 ·have h1:(KC p i (HF i a y)).Locs=(HF i a y).Locs:=by unfold KC; split <;> rfl
  refine⟨(HG p i _).trans (yN i a y), ?_⟩
  rw[h1]
  unfold HF
  split
  ·refine⟨λl hl=>yL.2 (.inl hl),λl hl=> ?_⟩
   rcases yL.1 hl with h | h
   ·exact .inl h
   ·exact .inr (by rw[h])
  ·exact⟨λl hl=>hl,λl hl=>.inl hl⟩
theorem OA {p v f:Int}:∀(l:List bE) (c:aB),Rl v c (C5 p v f c l)
 | [],c=>.refl v c
 | i::l,c=>(U9 (a:=wL v f i)).trans (OA l _)
structure Kp (c:aB) (d:aP) (e:aB) (g:aG→Bool):Prop where
 q:c.Seq≤e.Seq
 y:∀s∈c.Snaps,g s=false→∃s'∈e.Snaps,s'.Man=s.Man∧s'.Seq=s.Seq
 n:∀s∈c.Snaps,g s=true→∀s'∈e.Snaps,(s'.Man.Name.toList==s.Man.Name.toList)=false
 l:(c.Snaps.filter λs=> !g s).length≤e.Snaps.length
 w:(c.Snaps.filter g).length=if d.Kind=2∨(c.Snaps.any (iL d.Items)=true) then 1 else 0
 k:∀x∈c.Chunks,∀y∈e.Chunks,y.Id=x.Id→(∀l∈x.Locs,l.Vol≠d.Vol→l∈y.Locs)∧(∀l∈y.Locs,l∈x.Locs∨(d.Kind=3∧l.Vol=d.Vol))∧(d.Kind=4→∀l∈y.Locs,l.Vol≠d.Vol)
theorem FA {l:List aA} (h:l.Pairwise λy x=>ky y.Id < ky x.Id) {x y:aA} (hx:x∈l) (hy:y∈l) (e:x.Id=y.Id):x=y:=by
 obtain⟨i,hi,rfl⟩:=List.getElem_of_mem hx
 obtain⟨j,hj,rfl⟩:=List.getElem_of_mem hy
 rcases Nat.lt_trichotomy i j with w | w | w
 ·have:=QU h (List.getElem?_eq_getElem hi) (List.getElem?_eq_getElem hj) w
  rw[e] at this; omega
 ·subst w; rfl
 ·have:=QU h (List.getElem?_eq_getElem hj) (List.getElem?_eq_getElem hi) w
  rw[e] at this; omega
theorem IU {l:List aG} (h:l.Pairwise λy x=>(x.Man.Name==y.Man.Name)=false) {x y:aG} (hx:x∈l) (hy:y∈l) (e:x.Man.Name=y.Man.Name):x=y:=by
 obtain⟨i,hi,rfl⟩:=List.getElem_of_mem hx
 obtain⟨j,hj,rfl⟩:=List.getElem_of_mem hy
 rcases Nat.lt_trichotomy i j with w | w | w
 ·have:=QU h (List.getElem?_eq_getElem hi) (List.getElem?_eq_getElem hj) w
  rw[e,(jK _ _).2 rfl] at this; cases this
 ·subst w; rfl
 ·have:=QU h (List.getElem?_eq_getElem hj) (List.getElem?_eq_getElem hi) w
  rw[e,(jK _ _).2 rfl] at this; cases this
theorem FB {l:List aG} (h:l.Pairwise λy x=>y.Seq < x.Seq) {g:aG→Bool} {q:Int} (hg:∀s∈l,g s=true→s.Seq=q) (ha:l.any g=true):(l.filter g).length=1:=by
 have h1:(l.filter g).Pairwise λy x=>y.Seq < x.Seq:=h.sublist List.filter_sublist
 have h2:∀s∈l.filter g,s.Seq=q:=λs hs=>hg s (List.mem_filter.1 hs).1 (List.mem_filter.1 hs).2
 obtain⟨s,hs,e⟩:=List.any_eq_true.1 ha
 have h3:s∈l.filter g:=List.mem_filter.2 ⟨hs,e⟩
 generalize l.filter g=m at h1 h2 h3
 cases m with
 | nil=>cases h3
 | cons a m=>
  cases m with
  | nil=>rfl
  | cons b m=>
   have:=(List.pairwise_cons.1 h1).1 b List.mem_cons_self
   have:=h2 a List.mem_cons_self
   have:=h2 b (List.mem_cons_of_mem _ List.mem_cons_self)
   omega
theorem KE {α:Type} {l:List α} {g:α→Bool} (ha:l.any g=false):(l.filter g).length=0:=by
 rw[List.filter_eq_nil_iff.2 λx hx=>by simpa using List.any_eq_false.1 ha x hx]; rfl
theorem AY {c:aB} (G:Gd c) {s s':aG} (hs:s∈c.Snaps) (h:∃t∈c.Snaps,t.Man=s'.Man∧t≠s):(s'.Man.Name.toList==s.Man.Name.toList)=false:=by
 obtain⟨t,ht,e,ne⟩:=h
 rw[beq_eq_false_iff_ne]
 intro hn
 rw[← e] at hn
 exact ne (IU G.sm ht hs (qW hn))
open Go.Vm
theorem SC (c:aB) (y:aA):(KI c y).Id=y.Id∧(KI c y).Locs=y.Locs:=⟨(tE c y).2.1,(tE c y).1⟩
theorem VA {c:aB} {l ns:List aA} (hr:uO l) (hn:∀n∈ns,mD n.Id):∀y∈mX l ns,∀x∈l,y.Id=x.Id→y.Locs=x.Locs:=by
 induction ns generalizing l with
 | nil=>
  intro y hy x hx e
  rw[FA (uT.1 hr).2 hy hx e]
 | cons n ns ih=>
  intro y hy x hx e
  have hr2:=EY (n:=n) hr (hn n List.mem_cons_self)
  by_cases hxn:x.Id=n.Id
  ·have hmem:({ zS l n.Id with Staged:=true,Data:=n.Data}:aA)∈tD l n:=(EZ hr (hn n List.mem_cons_self)).2 (.inr rfl)
   have hth:zS l n.Id=x:=by
    obtain⟨i,hi,rfl⟩:=List.getElem_of_mem hx
    have:=IP hr (List.getElem?_eq_getElem hi)
    unfold zS
    rw[← hxn,this]
   have:=ih hr2 (λm hm=>hn m (List.mem_cons_of_mem _ hm)) y hy _ hmem (by rw[hth]; exact e)
   rw[this,hth]
  ·have hmem:x∈tD l n:=(EZ hr (hn n List.mem_cons_self)).2 (.inl ⟨hx,hxn⟩)
   exact ih hr2 (λm hm=>hn m (List.mem_cons_of_mem _ hm)) y hy x hmem e
theorem HO {d:aP} {l:List aG} (h:d.Items= []):l.any (iL d.Items)=false:=by
 rw[h,List.any_eq_false]
 intro s _
 simp[iL]
theorem VB {c:aB} {d:aP} (h:Sm c) (G:Gd c) (hd:J8 d) (hm:Mk c d) (k:d.Kind=1) (n:c.Snaps.any (λs=>s.Man.Name.toList==d.Snap.Man.Name.toList)=false):Kp c d (ad c d) (λ_=>false):=by
 have hr:uO c.Chunks:=uT.2 ⟨λx hx=>(h.g.2.2.1 x hx).1,G.co⟩
 refine⟨by show c.Seq≤c.Seq+1; omega,λs hs _=>⟨s,List.mem_append_left _ hs,rfl,rfl⟩,(λs _ h=>by cases h), ?_, ?_,λx hx y hy e=> ?_⟩
 ·show _≤(c.Snaps++_).length
  rw[List.length_append]
  exact Nat.le_trans (List.length_filter_le _ _) (Nat.le_add_right _ _)
 ·rw[HO (hm.e (by omega)),if_neg (by simp[k])]
  simp
 ·have:=VA (c:=c) hr (λn hn=>(hd.ch n hn).1) y hy x hx e
  rw[this]
  exact⟨λl hl _=>hl,λl hl=>.inl hl,λh4=>by omega⟩
theorem Q5 {c:aB} {d:aP} (G:Gd c) (hm:Mk c d) (k:d.Kind=2) (q:c.Snaps.any (λs=>s.Seq==d.Seq)=true):Kp c d (R5 c d.Seq) (λs=>s.Seq==d.Seq):=by
 refine⟨Int.le_refl _,λs hs hg=>⟨s,List.mem_filter.2 ⟨hs,by simp[hg]⟩,rfl,rfl⟩,λs hs hg s' hs'=> ?_,Nat.le_refl _, ?_,λx hx y hy e=> ?_⟩
 ·have hs':s'∈c.Snaps.filter λs=> !(s.Seq==d.Seq):=hs'
  obtain⟨h1,h2⟩:=List.mem_filter.1 hs'
  refine AY G hs ⟨s',h1,rfl,λe=> ?_⟩
  rw[e] at h2
  simp[hg] at h2
 ·rw[if_pos (.inl k)]
  exact FB G.so (λs _ hs=>by simpa using hs) q
 ·obtain⟨z,hz,rfl⟩:=List.mem_map.1 hy
  have hz:=(List.mem_filter.1 hz).1
  obtain⟨e1,e2⟩:=SC (NI c d.Seq) z
  rw[e2]
  rw[e1] at e
  rw[FA G.co hz hx e]
  exact⟨λl hl _=>hl,λl hl=>.inl hl,λh4=>by omega⟩
theorem VE {c:aB} {d:aP} {x:aR} (G:Gd c) (hm:Mk c d) (k:d.Kind=4):Kp c d (ret c d.Vol x) (λ_=>false):=by
 refine⟨Int.le_refl _,λs hs _=>⟨_,List.mem_map_of_mem hs,rfl,rfl⟩,(λs _ h=>by cases h), ?_, ?_,λz hz y hy e=> ?_⟩
 ·show _≤(c.Snaps.map _).length
  rw[List.length_map]
  exact List.length_filter_le _ _
 ·rw[HO (hm.e (by omega)),if_neg (by simp[k])]
  simp
 ·obtain⟨w,hw,rfl⟩:=List.mem_map.1 (List.mem_filter.1 hy).1
  have e:w.Id=z.Id:=e
  obtain rfl:=FA G.co hw hz e
  refine⟨λl hl hv=>List.mem_filter.2 ⟨hl,by simpa using hv⟩,λl hl=>.inl (List.mem_filter.1 hl).1,λ_ l hl=>by simpa using (List.mem_filter.1 hl).2⟩
theorem VF {c:aB} {d:aP} {x:aR} (G:Gd c) (hm:Mk c d) (k:d.Kind=5):Kp c d (rel c d.Vol x) (λ_=>false):=by
 refine⟨Int.le_refl _,λs hs _=>⟨s,hs,rfl,rfl⟩,(λs _ h=>by cases h),List.length_filter_le _ _, ?_,λz hz y hy e=> ?_⟩
 ·rw[HO (hm.e (by omega)),if_neg (by simp[k])]
  simp
 ·obtain rfl:=FA G.co hy hz e
  exact⟨λl hl _=>hl,λl hl=>.inl hl,λh4=>by omega⟩
theorem OB {c:aB} {d:aP} (G:Gd c) (hm:Mk c d):∃q,∀s∈c.Snaps,iL d.Items s=true→s.Seq=q:=by
 rcases hm.it with h | ⟨t,ht,e⟩
 ·refine⟨0,λs hs hg=> ?_⟩
  obtain⟨i,hi,e⟩:=List.any_eq_true.1 hg
  simp only[Bool.and_eq_true,beq_iff_eq] at e
  rcases(h.a i hi).w with⟨a,_⟩ | ⟨a,_⟩ | ⟨_,_,j,_,y,y1,y2,y3⟩
  ·omega
  ·omega
  ·exact absurd (by omega) (G.ex y (List.mem_of_getElem? y1) s hs)
 ·refine⟨t.Seq,λs hs hg=> ?_⟩
  rw[e] at hg
  simpa [iL] using hg
theorem OD {c:aB} {d:aP} {x:aR} (G:Gd c) (hm:Mk c d) (k:d.Kind=3):Kp c d (C6 c d x) (iL d.Items):=by
 have R:Rl d.Vol c (oQ c d x):=by
  obtain⟨h1,h2,h3⟩:=OA (p:=x.Pool) (v:=d.Vol) (f:=x.Files+1) d.Items (ws c d.Vol x)
  exact⟨h1,h2,h3⟩
 obtain⟨r1,⟨f,hf,ef⟩,g,hg,eg⟩:=R
 have es:(C6 c d x).Snaps=(c.Snaps.filter λs=> !iL d.Items s).map f:=by
  have:(E5 c d x).Snaps=(c.Snaps.filter λs=> !iL d.Items s).map f:=by
   show ((oQ c d x).Snaps.filter _)=_
   rw[ef,List.filter_map]
   congr 2
   funext s
   show (!iL d.Items (f s))=_
   unfold iL
   rw[(hf s).1]
  unfold C6
  split <;> exact this
 have eq:(C6 c d x).Seq=(oQ c d x).Seq:=by unfold C6; split <;> rfl
 have ek:∀y∈(C6 c d x).Chunks,∃z∈c.Chunks,y.Id=z.Id∧y.Locs=(g z).Locs:=λy hy=>by
  unfold C6 at hy
  split at hy
  ·obtain⟨w,hw,rfl⟩:=List.mem_map.1 hy
   have hw:w∈(oQ c d x).Chunks:=(List.mem_filter.1 hw).1
   rw[eg] at hw
   obtain⟨z,hz,rfl⟩:=List.mem_map.1 hw
   obtain⟨e1,e2⟩:=SC (E5 c d x) (g z)
   exact⟨z,hz,e1.trans (hg z).1,e2⟩
  ·have hy:y∈(oQ c d x).Chunks:=hy
   rw[eg] at hy
   obtain⟨z,hz,rfl⟩:=List.mem_map.1 hy
   exact⟨z,hz,(hg z).1,rfl⟩
 refine⟨by rw[eq]; exact r1,λs hs hgn=>⟨f s,by rw[es]; exact List.mem_map_of_mem (List.mem_filter.2 ⟨hs,by simp[hgn]⟩),(hf s).2,(hf s).1⟩,λs hs hgn s' hs'=> ?_, ?_, ?_,λz hz y hy e=> ?_⟩
 ·rw[es] at hs'
  obtain⟨t,ht,rfl⟩:=List.mem_map.1 hs'
  obtain⟨h1,h2⟩:=List.mem_filter.1 ht
  refine AY G hs ⟨t,h1,(hf t).2.symm,λe=> ?_⟩
  rw[e,hgn] at h2
  cases h2
 ·rw[es,List.length_map]
  exact Nat.le_refl _
 ·obtain⟨q,hq⟩:=OB G hm
  cases ha:c.Snaps.any (iL d.Items) with
  | true=>rw[if_pos (.inr rfl)]; exact FB G.so hq ha
  | false=>rw[if_neg (by simp[k])]; exact KE ha
 ·obtain⟨w,hw,e1,e2⟩:=ek y hy
  obtain rfl:=FA G.co hw hz (e1.symm.trans e)
  rw[e2]
  exact⟨λl hl _=>(hg w).2.1 l hl,λl hl=>((hg w).2.2 l hl).imp_right λh=>⟨k,h⟩,λh4=>by omega⟩
theorem VG {c:aB} {d:aP} {e:aB} (h:Sm c) (G:Gd c) (hd:J8 d) (hm:Mk c d) (he:Eff c d e):∃g,Kp c d e g:=by
 cases he with
 | add k q n w=>subst w; exact⟨_,VB h G hd hm k n⟩
 | drop k q w=>subst w; exact⟨_,Q5 G hm k q⟩
 | wrote k x hx q p w=>subst w; exact⟨_,OD G hm k⟩
 | ret k x hx q w=>subst w; exact⟨_,VE G hm k⟩
 | rel k x hx q w=>subst w; exact⟨_,VF G hm k⟩
open Go.Vm
def uV (m:Nat) (p0:List bI) (p1:bI) (q0:Int):Option (Lp (Int) (Bool)):=
 if (decide (q0 < (p0.length:Int)))=true then ((ix p0 q0).bind λx0=>(GS m x0 p1).bind λy0=>if y0=true then (some (.ret true)) else some (.go (IntKind.wrap .i64 (q0+1)))) else some (.brk q0)
def V5 (m:Nat) (p0:List bI) (p1:bI):Option (Bool):=
 after (aT (λs=>uV m p0 p1 s) m 0) λr0=>some false
theorem W45 {u:Nat} {p0:List bI} {p1:bI} {o:Bool} (h:aF) (m:V5 u p0 p1=some o):
 aL Tryz.prog 45 [.sl none 4 (List.map aM p0),.agg (aM p1)] h (λr h'=>r= .sc (.bool o)∧h'=h):=by
 refine fN 18 [.tmp 4] Tryz.func45 rfl rfl rfl rfl ?_
 unfold V5 at m
 refine v (gG rfl rfl λk2 K3=>v (iI m (σ:=Int) (λs=> [(some k2,.obj 81 (aM p1))]) (λs=>.c 0 (.sl none 4 (List.map aM p0)) (.c 3 (.ptr k2 0) (.c 5 (nZ s) .nil))) (lx (.k3 .nil)) ?_ ?_))
 rintro _ q0 x m
 replace m:uV u p0 p1 q0=some x:=m
 unfold uV at m
 refine v (cZ iC rfl (v ?_))
 apply vi m <;> intro c0 m
 refine v (v (v (vq (by kernel_rfl) (vx m i8 rfl rfl λx0 _ m=>va (.agg (aM x0)) kL rfl rfl (vl 0 (.agg (aM p1)) kL rfl rfl rfl (vk YS RS m rfl rfl λ_ m=>v ?_))))))
 apply vi m <;> intro c1 m
 refine v (v (fO m λm=> ?_))
 obtain rfl:=eB m
 exact dQ rfl
 exact v (v (gH m))
 exact v (xC m)
 rintro _ r0 m
 refine v (v ?_)
 obtain rfl:=eB m
 exact dQ rfl
theorem aBP:aO Tryz.prog 45=true:=by kernel_rfl
def uW (m:Nat) (y0:aB×Int) (y1:(List bL)) (q0:Int):Option (Lp (Int) (Lp (Int) (Lp (Int×Int) (Bool)))):=
 if (decide (q0 < (y1.length:Int)))=true then ((ix y1 q0).bind λx0=>(VT m y0.1 x0).bind λy2=>after (if (decide (y2 < 0))=true then (some (.brk true)) else some (.brk (decide ((y0.1.Chunks.length:Int)≤y2))):Option (Lp (Bool) (Lp (Int) (Lp (Int) (Lp (Int×Int) (Bool)))))) λj0=>if j0=true then (some (.ret (.ret (.ret false)))) else some (.go (IntKind.wrap .i64 (q0+1)))) else some (.brk q0)
def uX (m:Nat) (y0:aB) (y1:aB×Int) (q0:Int) (q1:Int):Option (Lp (Int×Int) (Bool)):=
 if (decide (q1 < (y0.Snaps.length:Int)))=true then (after ((ix y0.Snaps q1).bind λx0=>(VQ m y1.1 x0.Man.Name).bind λy2=>after (if (decide (y2 < 0))=true then (some (.brk true)) else some (.brk (decide ((y1.1.Snaps.length:Int)≤y2))):Option (Lp (Bool) (Lp (Int) (Lp (Int×Int) (Bool))))) λj0=>if j0=true then (some (.brk (IntKind.wrap .i64 (q0+1)))) else after ((ix y1.1.Snaps y2).bind λx1=>(ix y0.Snaps q1).bind λx2=>(VU m x1.Man x2.Man).bind λy3=>if (!y3)=true then (some (.brk true)) else (ix y1.1.Snaps y2).bind λx3=>(ix y0.Snaps q1).bind λx4=>some (.brk (x3.Seq !=x4.Seq)):Option (Lp (Bool) (Lp (Int) (Lp (Int×Int) (Bool))))) λj1=>if j1=true then (some (.ret (.ret false))) else (ix y0.Snaps q1).bind λx5=>(VP m x5.Man).bind λy4=>after (aT (λs=>uW m y1 y4 s) m 0) λr0=>some (.brk q0):Option (Lp (Int) (Lp (Int×Int) (Bool)))) λj2=>some (.go (j2,IntKind.wrap .i64 (q1+1)))) else some (.brk (q0,q1))
def rB (m:Nat) (y0:aB) (y1:aP×Bool) (q0:Int) (q1:Int) (q2:Int):Option (Lp (Int×Int) (Lp (Int×Int) (Bool))):=
 if (decide (q2 < (y0.Snaps.length:Int)))=true then (after ((ix y1.1.Items q0).bind λx0=>if (x0.Kind==3)=true then ((ix y1.1.Items q0).bind λx1=>(ix y0.Snaps q2).bind λx2=>some (.brk (x1.Of==x2.Seq))) else some (.brk false):Option (Lp (Bool) (Lp (Int×Int) (Lp (Int×Int) (Bool))))) λj0=>after (if j0=true then (some (.brk 1)) else some (.brk q1):Option (Lp (Int) (Lp (Int×Int) (Lp (Int×Int) (Bool))))) λj1=>some (.go (j1,IntKind.wrap .i64 (q2+1)))) else some (.brk (q1,q2))
def pR (m:Nat) (y0:aB) (y1:aP×Bool) (q0:Int) (q1:Int):Option (Lp (Int×Int) (Bool)):=
 if (decide (q1 < (y1.1.Items.length:Int)))=true then (after (aT (λs=>rB m y0 y1 q1 s.1 s.2) m (q0,0)) λ⟨r0,r1⟩=>some (.go (r0,IntKind.wrap .i64 (q1+1)))) else some (.brk (q0,q1))
def p6 (m:Nat) (y0:aB) (y1:aP×Bool) (y2:aB×Int) (q0:Int) (y3:Int) (q1:Int):Option (Lp (Int) (Lp (Unit) (Lp (Int) (Bool)))):=
 (ix y0.Chunks q0).bind λx0=>if (decide (q1 < (x0.Locs.length:Int)))=true then (after ((ix y0.Chunks q0).bind λx1=>(ix x1.Locs q1).bind λx2=>if (x2.Vol !=y1.1.Vol)=true then ((ix y2.1.Chunks y3).bind λx3=>(ix y0.Chunks q0).bind λx4=>(ix x4.Locs q1).bind λx5=>(V5 m x3.Locs x5).bind λy4=>some (.brk (!y4))) else some (.brk false):Option (Lp (Bool) (Lp (Int) (Lp (Unit) (Lp (Int) (Bool)))))) λj0=>if j0=true then (some (.ret (.ret (.ret false)))) else some (.go (IntKind.wrap .i64 (q1+1)))) else some (.brk q1)
def p7 (m:Nat) (y0:aB) (y1:aP×Bool) (y2:aB×Int) (q0:Int) (y3:Int) (q1:Int):Option (Lp (Int) (Lp (Unit) (Lp (Int) (Bool)))):=
 (ix y2.1.Chunks y3).bind λx0=>if (decide (q1 < (x0.Locs.length:Int)))=true then ((ix y2.1.Chunks y3).bind λx1=>(ix x1.Locs q1).bind λx2=>after ((ix y0.Chunks q0).bind λx3=>(V5 m x3.Locs x2).bind λy4=>if (!y4)=true then (if (y1.1.Kind !=3)=true then (some (.brk true)) else if (x2.Vol !=y1.1.Vol)=true then (some (.brk true)) else if (y1.1.Kind==4)=true then (some (.brk (x2.Vol==y1.1.Vol))) else some (.brk false)) else if (y1.1.Kind==4)=true then (some (.brk (x2.Vol==y1.1.Vol))) else some (.brk false):Option (Lp (Bool) (Lp (Int) (Lp (Unit) (Lp (Int) (Bool)))))) λj0=>if j0=true then (some (.ret (.ret (.ret false)))) else some (.go (IntKind.wrap .i64 (q1+1)))) else some (.brk q1)
def rC (m:Nat) (y0:aB) (y1:aP×Bool) (y2:aB×Int) (q0:Int):Option (Lp (Int) (Bool)):=
 if (decide (q0 < (y0.Chunks.length:Int)))=true then (after ((ix y0.Chunks q0).bind λx0=>(VT m y2.1 x0.Id).bind λy3=>after (if (decide (y3 < 0))=true then (some (.brk true)) else some (.brk (decide ((y2.1.Chunks.length:Int)≤y3))):Option (Lp (Bool) (Lp (Unit) (Lp (Int) (Bool))))) λj0=>if j0=true then (some (.brk ())) else after (aT (λs=>p6 m y0 y1 y2 q0 y3 s) m 0) λr0=>after (aT (λs=>p7 m y0 y1 y2 q0 y3 s) m 0) λr1=>some (.brk ()):Option (Lp (Unit) (Lp (Int) (Bool)))) λ_=>some (.go (IntKind.wrap .i64 (q0+1)))) else some (.brk q0)
def M13 (m:Nat) (p0:List Int) (p1:List lP) (p2:lP):Option (Bool):=
 after (if (decide (30 < (p0.length:Int)))=true then (some (.brk true)) else (V4 m p1).bind λy0=>if y0=true then (some (.brk true)) else (V4 m ([p2]:List lP)).bind λy1=>some (.brk y1):Option (Lp (Bool) (Bool))) λj0=>if j0=true then (some true) else (M16 m p0).bind λy2=>(M15 m y2 p1).bind λy3=>(V3 m y3 p2).bind λy4=>if (!y4.2)=true then ((U2 m).bind λy5=>some y5) else (DH m y3 y4.1).bind λy6=>if (y6.2 !=0)=true then (after ((M34 m y6.1 ({ Seq:=0,Snaps:= [],Chunks:= [],Exps:= [],Vols:= []}:aB)).bind λy7=>if y7=true then ((U2 m).bind λy8=>some (.brk y8)) else some (.brk false):Option (Lp (Bool) (Bool))) λj1=>some j1) else after (aT (λs=>uX m y3 y6 s.1 s.2) m (0,0)) λ⟨r0,r1⟩=>after (if (y4.1.Kind==2)=true then (some (.brk 1)) else some (.brk 0):Option (Lp (Int) (Bool))) λj2=>after (aT (λs=>pR m y3 y4 s.1 s.2) m (j2,0)) λ⟨r2,r3⟩=>after (if (r0 !=r2)=true then (some (.brk true)) else if (decide ((y6.1.Snaps.length:Int) < (IntKind.wrap .i64 ((y3.Snaps.length:Int) - r0))))=true then (some (.brk true)) else some (.brk (decide (y6.1.Seq < y3.Seq))):Option (Lp (Bool) (Bool))) λj3=>if j3=true then (some false) else after (aT (λs=>rC m y3 y4 y6 s) m 0) λr4=>(U2 m).bind λy9=>some y9
theorem W13 {w:Nat} {p0:List Int} {p1:List lP} {p2:lP} {o:Bool} (h:aF) (m:M13 w p0 p1 p2=some o):
 aL Tryz.prog 13 [.sl none 1 (List.map iY p0),.sl none 5 (List.map dO p1),.agg (dO p2)] h (λr h'=>r= .sc (.bool o)∧h'=h):=by
 refine fN 330 [.tmp 6] Tryz.func13 rfl rfl rfl rfl ?_
 unfold M13 at m
 refine v (gG rfl rfl λk2 K3=>vs (vs (fB m (σ:=Bool) (λs=> [(some k2,.obj 67 (dO p2))]) (λs=>.c 0 (.sl none 1 (List.map iY p0)) (.c 1 (.sl none 5 (List.map dO p1)) (.c 5 (.ptr k2 0) (.c 37 (.sc (.bool s)) .nil)))) (λx m=> ?_) ?_)))
 refine v (cZ JE rfl ?_)
 apply vi m <;> intro b0 m
 rw[b0]
 exact fR m
 rw[b0]
 refine vk W14 aBC m rfl rfl λ_ m=> ?_
 apply vi m <;> intro b1 m
 rw[b1]
 exact fR m
 rw[b1]
 exact vl 0 (.agg (dO p2)) TA rfl rfl rfl (bU (eO (List.map dO ([p2]:List lP)) aC5 rfl rfl rfl rfl) (vk W14 aBC m rfl rfl λ_ m=>fR m))
 rintro _ j0 m
 refine v ?_
 apply vi m <;> intro c0 m
 refine v (v ?_)
 obtain rfl:=eB m
 exact dQ rfl
 refine v (v (vk W16 aGK m rfl rfl λ_ m=>vk W15 aGL m rfl rfl λy0 m=>ve λu=>bD (gR) u pE rfl rfl λk28 K0=>qk K0 rfl (ve λu=>aK 0 (aE y0) u rfl rfl rfl rfl lQ rfl rfl λK1=>qk K1 rfl (v (vl 0 (.agg (aE y0)) eV rfl rfl rfl (vl 1 (.agg (dO p2)) TA rfl rfl rfl (vk W35 aBB m rfl rfl λy1 m=>ve λu=>bD (vR) u JM rfl rfl λk35 K2=>qk K2 rfl (ve λu=>aK 0 (aD y1.1) u rfl rfl rfl rfl uC rfl rfl λK4=>qk K4 rfl (v (v ?_))))))))))
 apply vi m <;> intro c1 m
 refine v (vk W37 U3 m rfl rfl λ_ m=>v ?_)
 obtain rfl:=eB m
 exact dQ rfl
 refine v (v (vl 1 (.agg (aE y0)) eV rfl rfl rfl (vl 0 (.agg (aD y1.1)) n7 rfl rfl rfl (vk W29 aAP m rfl rfl λy2 m=>ve λu=>bD (gR) u pE rfl rfl λk48 K5=>qk K5 rfl (ve λu=>aK 0 (aE y2.1) u rfl rfl rfl rfl lQ rfl rfl λK6=>qk K6 rfl (v (v ?_)))))))
 apply vi m <;> intro c2 m
 refine vs (fB m (σ:=Bool) (λs=> [(some k48,.obj 30 (aE y2.1)),(some k35,.obj 62 (aD y1.1)),(some k28,.obj 30 (aE y0)),(some k2,.obj 67 (dO p2))]) (λs=>.c 6 (.sc (.bool s)) .nil) (λx m=> ?_) ?_)
 refine v (vl 0 (.agg (aE y2.1)) eV rfl rfl rfl (bU (fG (gR) yY rfl) ?_))
 obtain⟨_,Y0,m⟩:=aC m
 refine bU (bZ (pT (.cons (bH.refl _ _) (.cons (bH.agg (.cons (bH.refl _ _) (.cons (aX _) (.cons (aX _) (.cons (aX _) (.cons (aX _) .nil)))))) .nil)) (W34 _ Y0)) rfl aEX rfl) ?_
 apply vi m <;> intro b2 m
 rw[b2]
 exact vk W37 U3 m rfl rfl λ_ m=>iN m
 rw[b2]
 exact iN m
 rintro _ j1 m
 refine v ?_
 obtain rfl:=eB m
 exact dQ rfl
 refine v (v (v (iI m (σ:=Int×Int) (λs=> [(some k48,.obj 30 (aE y2.1)),(some k35,.obj 62 (aD y1.1)),(some k28,.obj 30 (aE y0)),(some k2,.obj 67 (dO p2))]) (λs=>.c 7 (.ptr k28 0) (.c 8 (.ptr k35 0) (.c 10 (.ptr k48 0) (.c 12 (nZ s.1) (.c 13 (nZ s.2) .nil))))) (lx (.k5 .nil)) ?_ ?_)))
 rintro _ ⟨q0,q1⟩ x m
 replace m:uX w y0 y2 q0 q1=some x:=m
 unfold uX at m
 refine v (vl 2 _ eK rfl rfl rfl (cZ iJ rfl (v ?_)))
 apply vi m <;> intro c3 m
 refine v (vs (fB m (σ:=Int) (λs=> [(some k48,.obj 30 (aE y2.1)),(some k35,.obj 62 (aD y1.1)),(some k28,.obj 30 (aE y0)),(some k2,.obj 67 (dO p2))]) (λs=>.c 7 (.ptr k28 0) (.c 8 (.ptr k35 0) (.c 10 (.ptr k48 0) (.c 12 (nZ s) (.c 13 (nZ q1) .nil))))) (λx m=> ?_) ?_))
 refine v (v (vq (by kernel_rfl) (vl 0 (.agg (aE y2.1)) eV rfl rfl rfl (vl 2 _ eK rfl rfl rfl (vx m gJ rfl rfl λ_ _ m=>vk W46 YE m rfl rfl λy3 m=>vs (vs (fB m (σ:=Bool) (λs=> [(some k48,.obj 30 (aE y2.1)),(some k35,.obj 62 (aD y1.1)),(some k28,.obj 30 (aE y0)),(some k2,.obj 67 (dO p2))]) (λs=>.c 7 (.ptr k28 0) (.c 8 (.ptr k35 0) (.c 10 (.ptr k48 0) (.c 12 (nZ q0) (.c 13 (nZ q1) (.c 14 (nZ y3) (.c 89 (.sc (.bool s)) .nil))))))) (λx m=> ?_) ?_)))))))
 refine v ?_
 apply vi m <;> intro b3 m
 rw[b3]
 exact p8 m
 rw[b3]
 exact vl 0 _ eK rfl rfl rfl (cZ iJ rfl (p8 m))
 rintro _ j2 m
 refine v ?_
 apply vi m <;> intro c4 m
 exact v (v (mC m))
 refine v (vs (vs (fB m (σ:=Bool) (λs=> [(some k48,.obj 30 (aE y2.1)),(some k35,.obj 62 (aD y1.1)),(some k28,.obj 30 (aE y0)),(some k2,.obj 67 (dO p2))]) (λs=>.c 7 (.ptr k28 0) (.c 8 (.ptr k35 0) (.c 10 (.ptr k48 0) (.c 12 (nZ q0) (.c 13 (nZ q1) (.c 120 (.sc (.bool s)) .nil)))))) (λx m=> ?_) ?_)))
 refine v (vq (by kernel_rfl) (vl 0 _ eK rfl rfl rfl (vx m gJ rfl rfl λx0 _ m=>va (.agg (aU x0.Man)) lI rfl rfl (vl 2 _ eK rfl rfl rfl (vx m gJ rfl rfl λx1 _ m=>va (.agg (aU x1.Man)) lI rfl rfl (vk W48 YV m rfl rfl λ_ m=> ?_))))))
 apply vi m <;> intro b4 m
 rw[b4]
 exact oZ m
 rw[b4]
 exact vl 0 _ eK rfl rfl rfl (vx m gJ rfl rfl λ_ _ m=>vl 2 _ eK rfl rfl rfl (vx m gJ rfl rfl λ_ _ m=>oZ m))
 rintro _ j3 m
 refine v ?_
 apply vi m <;> intro c5 m
 refine v (v (fO m λm=>fO m λm=> ?_))
 obtain rfl:=eB m
 exact dQ rfl
 refine v (v (vl 2 _ eK rfl rfl rfl (vx m gJ rfl rfl λx2 _ m=>va (.agg (aU x2.Man)) lI rfl rfl (vk W49 XV m rfl rfl λy4 m=>v (iI m (σ:=Int) (λs=> [(some k48,.obj 30 (aE y2.1)),(some k35,.obj 62 (aD y1.1)),(some k28,.obj 30 (aE y0)),(some k2,.obj 67 (dO p2))]) (λs=>.c 7 (.ptr k28 0) (.c 8 (.ptr k35 0) (.c 10 (.ptr k48 0) (.c 12 (nZ q0) (.c 13 (nZ q1) (.c 15 (.sl none 32 (List.map bJ y4)) (.c 16 (nZ s) .nil))))))) (lx (.k7 .nil)) ?_ ?_)))))
 rintro _ q2 x m
 replace m:uW w y2 y4 q2=some x:=m
 unfold uW at m
 refine v (cZ n8 rfl (v ?_))
 apply vi m <;> intro c6 m
 refine v (v (v (vq (by kernel_rfl) (vl 0 (.agg (aE y2.1)) eV rfl rfl rfl (vx m rV rfl rfl λx3 _ m=>va (.agg (bJ x3)) fK rfl rfl (vk W20 YF m rfl rfl λ_ m=>vs (fB m (σ:=Bool) (λs=> [(some k48,.obj 30 (aE y2.1)),(some k35,.obj 62 (aD y1.1)),(some k28,.obj 30 (aE y0)),(some k2,.obj 67 (dO p2))]) (λs=>.c 7 (.ptr k28 0) (.c 8 (.ptr k35 0) (.c 10 (.ptr k48 0) (.c 12 (nZ q0) (.c 13 (nZ q1) (.c 15 (.sl none 32 (List.map bJ y4)) (.c 16 (nZ q2) (.c 148 (.sc (.bool s)) .nil)))))))) (λx m=> ?_) ?_)))))))
 refine v ?_
 apply vi m <;> intro b5 m
 rw[b5]
 exact F6 m
 rw[b5]
 exact vl 0 _ eD rfl rfl rfl (cZ hM rfl (F6 m))
 rintro _ j4 m
 refine v ?_
 apply vi m <;> intro c7 m
 refine v (v (fO m λm=>fO m λm=>fO m λm=> ?_))
 obtain rfl:=eB m
 exact dQ rfl
 exact v (v (p8 m))
 exact v (bq7 m)
 rintro _ r0 m
 exact mC m
 rintro _ j5 m
 exact v (mC m)
 exact v (VK m)
 rintro _ ⟨r1,r2⟩ m
 refine v (v (vl 1 _ bX rfl rfl rfl (fB m (σ:=Int) (λs=> [(some k48,.obj 30 (aE y2.1)),(some k35,.obj 62 (aD y1.1)),(some k28,.obj 30 (aE y0)),(some k2,.obj 67 (dO p2))]) (λs=>.c 7 (.ptr k28 0) (.c 8 (.ptr k35 0) (.c 10 (.ptr k48 0) (.c 12 (nZ r1) (.c 18 (nZ s) .nil))))) (λx m=> ?_) ?_)))
 refine v ?_
 apply vi m <;> intro c8 m
 exact v (mC m)
 exact v (mC m)
 rintro _ j6 m
 refine v (iI m (σ:=Int×Int) (λs=> [(some k48,.obj 30 (aE y2.1)),(some k35,.obj 62 (aD y1.1)),(some k28,.obj 30 (aE y0)),(some k2,.obj 67 (dO p2))]) (λs=>.c 7 (.ptr k28 0) (.c 8 (.ptr k35 0) (.c 10 (.ptr k48 0) (.c 12 (nZ r1) (.c 18 (nZ s.1) (.c 19 (nZ s.2) .nil)))))) (lx (.k6 .nil)) ?_ ?_)
 rintro _ ⟨q3,q4⟩ x m
 replace m:pR w y0 y1 q3 q4=some x:=m
 unfold pR at m
 refine v (vl 1 _ jZ rfl rfl rfl (cZ n3 rfl (v ?_)))
 apply vi m <;> intro c9 m
 refine v (v (v (iI m (σ:=Int×Int) (λs=> [(some k48,.obj 30 (aE y2.1)),(some k35,.obj 62 (aD y1.1)),(some k28,.obj 30 (aE y0)),(some k2,.obj 67 (dO p2))]) (λs=>.c 7 (.ptr k28 0) (.c 8 (.ptr k35 0) (.c 10 (.ptr k48 0) (.c 12 (nZ r1) (.c 18 (nZ s.1) (.c 19 (nZ q4) (.c 20 (nZ s.2) .nil))))))) (lx (.k7 .nil)) ?_ ?_)))
 rintro _ ⟨q5,q6⟩ x m
 replace m:rB w y0 y1 q4 q5 q6=some x:=m
 unfold rB at m
 refine v (vl 2 _ eK rfl rfl rfl (cZ iJ rfl (v ?_)))
 apply vi m <;> intro c10 m
 refine v (v (vs (fB m (σ:=Bool) (λs=> [(some k48,.obj 30 (aE y2.1)),(some k35,.obj 62 (aD y1.1)),(some k28,.obj 30 (aE y0)),(some k2,.obj 67 (dO p2))]) (λs=>.c 7 (.ptr k28 0) (.c 8 (.ptr k35 0) (.c 10 (.ptr k48 0) (.c 12 (nZ r1) (.c 18 (nZ q5) (.c 19 (nZ q4) (.c 20 (nZ q6) (.c 187 (.sc (.bool s)) .nil)))))))) (λx m=> ?_) ?_)))
 refine v (vq (by kernel_rfl) (vl 1 _ jZ rfl rfl rfl (vx m rT rfl rfl λ_ _ m=> ?_)))
 apply vi m <;> intro b6 m
 rw[b6]
 exact vl 1 _ jZ rfl rfl rfl (vx m rT rfl rfl λ_ _ m=>vl 2 _ eK rfl rfl rfl (vx m gJ rfl rfl λ_ _ m=>F6 m))
 rw[b6]
 exact F6 m
 rintro _ j7 m
 refine fB m (σ:=Int) (λs=> [(some k48,.obj 30 (aE y2.1)),(some k35,.obj 62 (aD y1.1)),(some k28,.obj 30 (aE y0)),(some k2,.obj 67 (dO p2))]) (λs=>.c 7 (.ptr k28 0) (.c 8 (.ptr k35 0) (.c 10 (.ptr k48 0) (.c 12 (nZ r1) (.c 18 (nZ s) (.c 19 (nZ q4) (.c 20 (nZ q6) .nil))))))) (λx m=> ?_) ?_
 refine v ?_
 apply vi m <;> intro c11 m
 exact v (p8 m)
 exact v (p8 m)
 rintro _ j8 m
 exact v (p8 m)
 exact v (bq7 m)
 rintro _ ⟨r3,r4⟩ m
 exact v (oZ m)
 exact v (WY m)
 rintro _ ⟨r5,r6⟩ m
 refine vs (vs (fB m (σ:=Bool) (λs=> [(some k48,.obj 30 (aE y2.1)),(some k35,.obj 62 (aD y1.1)),(some k28,.obj 30 (aE y0)),(some k2,.obj 67 (dO p2))]) (λs=>.c 7 (.ptr k28 0) (.c 8 (.ptr k35 0) (.c 10 (.ptr k48 0) (.c 208 (.sc (.bool s)) .nil)))) (λx m=> ?_) ?_))
 refine v ?_
 apply vi m <;> intro b7 m
 rw[b7]
 exact fR m
 rw[b7]
 refine vl 0 _ eK rfl rfl rfl (cZ iJ rfl (vl 2 _ eK rfl rfl rfl (cZ iJ rfl ?_)))
 apply vi m <;> intro b8 m
 rw[b8]
 exact fR m
 rw[b8]
 exact vl 0 _ bX rfl rfl rfl (vl 2 _ bX rfl rfl rfl (fR m))
 rintro _ j9 m
 refine v ?_
 apply vi m <;> intro c12 m
 refine v (v ?_)
 obtain rfl:=eB m
 exact dQ rfl
 refine v (v (iI m (σ:=Int) (λs=> [(some k48,.obj 30 (aE y2.1)),(some k35,.obj 62 (aD y1.1)),(some k28,.obj 30 (aE y0)),(some k2,.obj 67 (dO p2))]) (λs=>.c 7 (.ptr k28 0) (.c 8 (.ptr k35 0) (.c 10 (.ptr k48 0) (.c 21 (nZ s) .nil)))) (lx (.k4 .nil)) ?_ ?_))
 rintro _ q7 x m
 replace m:rC w y0 y1 y2 q7=some x:=m
 unfold rC at m
 refine v (vl 2 _ eD rfl rfl rfl (cZ hM rfl (v ?_)))
 apply vi m <;> intro c13 m
 refine v (vs (fB m (σ:=Unit) (λs=> [(some k48,.obj 30 (aE y2.1)),(some k35,.obj 62 (aD y1.1)),(some k28,.obj 30 (aE y0)),(some k2,.obj 67 (dO p2))]) (λs=>.c 7 (.ptr k28 0) (.c 8 (.ptr k35 0) (.c 10 (.ptr k48 0) (.c 21 (nZ q7) .nil)))) (λx m=> ?_) ?_))
 refine v (v (vq (by kernel_rfl) (vl 0 (.agg (aE y2.1)) eV rfl rfl rfl (vl 2 _ eD rfl rfl rfl (vx m eU rfl rfl λx4 _ m=>va (.agg (bJ x4.Id)) fK rfl rfl (vk W20 YF m rfl rfl λy5 m=>vs (vs (fB m (σ:=Bool) (λs=> [(some k48,.obj 30 (aE y2.1)),(some k35,.obj 62 (aD y1.1)),(some k28,.obj 30 (aE y0)),(some k2,.obj 67 (dO p2))]) (λs=>.c 7 (.ptr k28 0) (.c 8 (.ptr k35 0) (.c 10 (.ptr k48 0) (.c 21 (nZ q7) (.c 22 (nZ y5) (.c 232 (.sc (.bool s)) .nil)))))) (λx m=> ?_) ?_))))))))
 refine v ?_
 apply vi m <;> intro b9 m
 rw[b9]
 exact oZ m
 rw[b9]
 exact vl 0 _ eD rfl rfl rfl (cZ hM rfl (oZ m))
 rintro _ j10 m
 refine v ?_
 apply vi m <;> intro c14 m
 exact v (fR m)
 refine v (v (iI m (σ:=Int) (λs=> [(some k48,.obj 30 (aE y2.1)),(some k35,.obj 62 (aD y1.1)),(some k28,.obj 30 (aE y0)),(some k2,.obj 67 (dO p2))]) (λs=>.c 7 (.ptr k28 0) (.c 8 (.ptr k35 0) (.c 10 (.ptr k48 0) (.c 21 (nZ q7) (.c 22 (nZ y5) (.c 23 (nZ s) .nil)))))) (lx (.k6 .nil)) ?_ ?_))
 rintro _ q8 x m
 replace m:p6 w y0 y1 y2 q7 y5 q8=some x:=m
 unfold p6 at m
 refine v (vl 2 _ eD rfl rfl rfl (vx m eU rfl rfl λ_ _ m=>cZ iC rfl (v ?_)))
 apply vi m <;> intro c15 m
 refine v (v (vs (fB m (σ:=Bool) (λs=> [(some k48,.obj 30 (aE y2.1)),(some k35,.obj 62 (aD y1.1)),(some k28,.obj 30 (aE y0)),(some k2,.obj 67 (dO p2))]) (λs=>.c 7 (.ptr k28 0) (.c 8 (.ptr k35 0) (.c 10 (.ptr k48 0) (.c 21 (nZ q7) (.c 22 (nZ y5) (.c 23 (nZ q8) (.c 275 (.sc (.bool s)) .nil))))))) (λx m=> ?_) ?_)))
 refine v (vq (by kernel_rfl) (vl 2 _ eD rfl rfl rfl (vx m eU rfl rfl λ_ _ m=>vx m i8 rfl rfl λ_ _ m=>vl 1 _ bX rfl rfl rfl ?_)))
 apply vi m <;> intro b10 m
 rw[b10]
 exact vl 0 _ eD rfl rfl rfl (vx m eU rfl rfl λ_ _ m=>vl 2 _ eD rfl rfl rfl (vx m eU rfl rfl λ_ _ m=>vx m i8 rfl rfl λx5 _ m=>va (.agg (aM x5)) kL rfl rfl (vk W45 aBP m rfl rfl λ_ m=>p8 m)))
 rw[b10]
 exact p8 m
 rintro _ j11 m
 refine v ?_
 apply vi m <;> intro c16 m
 refine v (v (fO m λm=>fO m λm=>fO m λm=> ?_))
 obtain rfl:=eB m
 exact dQ rfl
 exact v (v (oZ m))
 exact v (WY m)
 rintro _ r7 m
 refine v (iI m (σ:=Int) (λs=> [(some k48,.obj 30 (aE y2.1)),(some k35,.obj 62 (aD y1.1)),(some k28,.obj 30 (aE y0)),(some k2,.obj 67 (dO p2))]) (λs=>.c 7 (.ptr k28 0) (.c 8 (.ptr k35 0) (.c 10 (.ptr k48 0) (.c 21 (nZ q7) (.c 22 (nZ y5) (.c 24 (nZ s) .nil)))))) (lx (.k6 .nil)) ?_ ?_)
 rintro _ q9 x m
 replace m:p7 w y0 y1 y2 q7 y5 q9=some x:=m
 unfold p7 at m
 refine v (vl 0 _ eD rfl rfl rfl (vx m eU rfl rfl λ_ _ m=>cZ iC rfl (v ?_)))
 apply vi m <;> intro c17 m
 refine v (v (v (vl 0 _ eD rfl rfl rfl (vx m eU rfl rfl λ_ _ m=>vx m i8 rfl rfl λx6 _ m=>va (.agg (aM x6)) kL rfl rfl (ve λu=>bD (HP) u B5 rfl rfl λk2432 K7=>qk K7 rfl (ve λu=>aK 0 (aM x6) u rfl rfl rfl rfl JN rfl rfl λK8=>qk K8 rfl (vs (fB m (σ:=Bool) (λs=> [(some k2432,.obj 81 (aM x6)),(some k48,.obj 30 (aE y2.1)),(some k35,.obj 62 (aD y1.1)),(some k28,.obj 30 (aE y0)),(some k2,.obj 67 (dO p2))]) (λs=>.c 7 (.ptr k28 0) (.c 8 (.ptr k35 0) (.c 10 (.ptr k48 0) (.c 21 (nZ q7) (.c 22 (nZ y5) (.c 24 (nZ q9) (.c 328 (.sc (.bool s)) .nil))))))) (λx m=> ?_) ?_))))))))
 refine v (vq (by kernel_rfl) (vl 3 _ eD rfl rfl rfl (vx m eU rfl rfl λ_ _ m=>vl 0 (.agg (aM x6)) kL rfl rfl rfl (vk W45 aBP m rfl rfl λ_ m=> ?_))))
 apply vi m <;> intro b11 m
 rw[b11]
 refine vl 2 _ bX rfl rfl rfl ?_
 apply vi m <;> intro b12 m
 rw[b12]
 exact p8 m
 rw[b12]
 refine vl 0 _ bX rfl rfl rfl (vl 2 _ bX rfl rfl rfl ?_)
 apply vi m <;> intro b13 m
 rw[b13]
 exact p8 m
 rw[b13]
 refine vl 2 _ bX rfl rfl rfl ?_
 apply vi m <;> intro b15 m
 rw[b15]
 exact vl 0 _ bX rfl rfl rfl (vl 2 _ bX rfl rfl rfl (p8 m))
 rw[b15]
 exact p8 m
 rw[b11]
 refine vl 2 _ bX rfl rfl rfl ?_
 apply vi m <;> intro b16 m
 rw[b16]
 exact vl 0 _ bX rfl rfl rfl (vl 2 _ bX rfl rfl rfl (p8 m))
 rw[b16]
 exact p8 m
 rintro _ j12 m
 refine v ?_
 apply vi m <;> intro c18 m
 refine v (v (fO m λm=>fO m λm=>fO m λm=> ?_))
 obtain rfl:=eB m
 exact dQ rfl
 exact v (v (uZ m (kP [1,2,3,4] rfl rfl (.k6 .nil))))
 exact v (WY m)
 rintro _ r8 m
 exact fR m
 rintro _ _ m
 exact v (fR m)
 exact v (vN m)
 rintro _ r9 m
 refine v (vk W37 U3 m rfl rfl λ_ m=>v ?_)
 obtain rfl:=eB m
 exact dQ rfl
open Go.Vm
theorem aBR (F:Nat) (a b:bI):∃r,GS F a b=some r∧(r=true↔a=b):=by
 obtain⟨a1,a2,a3,a4⟩:=a
 obtain⟨b1,b2,b3,b4⟩:=b
 unfold GS
 by_cases h1:a1=b1
 ·by_cases h2:a2=b2
  ·by_cases h3:a3=b3
   ·exact⟨a4==b4,by simp[h1,h2,h3,aJ],by simp[h1,h2,h3]⟩
   ·exact⟨false,by simp[h1,h2,h3,aJ],by simp[h3]⟩
  ·exact⟨false,by simp[h1,h2,aJ],by simp[h2]⟩
 ·exact⟨false,by simp[h1,aJ],by simp[h1]⟩
theorem n45 {F:Nat} {l:List bI} {x:bI} (hF:1000≤F) (hl:l.length≤300):∃r,V5 F l x=some r∧(r=true↔x∈l):=by
 obtain⟨q,hq⟩:∃q:bI→Bool,∀y,GS F y x=some (q y)∧(q y=true↔y=x):=⟨λy=>Classical.choose (aBR F y x),λy=>Classical.choose_spec (aBR F y x)⟩
 have e:=mT (l:=l) (F:=F) (body:=λs=>uV F l x s) q true (by omega) (λi y hy hm hi=>by
  unfold uV
  rw[hH (by omega)]
  simp only[bO,hy,Option.bind_some,Int.ofNat_lt,hi,decide_true,if_true,(hq y).1]
  split <;> rfl) (by unfold uV; simp)
 unfold V5
 rw[e]
 refine⟨l.any q,by cases l.any q <;> rfl, ?_⟩
 rw[List.any_eq_true]
 constructor
 ·rintro⟨y,hy,h⟩
  rw[(hq y).2.1 h] at hy
  exact hy
 ·exact λh=>⟨x,h,(hq x).2.2 rfl⟩
theorem DC {α:Type} {l:List α} {q:α→Bool} (h:l.any q=true):∃(p:Nat) (x:α),oH l q=(p:Int)∧l[p]? =some x∧q x=true∧p < l.length:=by
 obtain⟨i,x,h1,h2,h3, -⟩:=iQ h
 exact⟨i,x,h1,h2,h3,(List.getElem?_eq_some_iff.1 h2).1⟩
theorem OE {F:Nat} {e:aB} {n:Int} {ids:List bL} (hF:1000≤F) (S:Sm e) (hl:ids.length≤400) (hi:∀d∈ids,e.Chunks.any (λx=>decide (x.Id=d))=true):aT (λs=>uW F (e,n) ids s) F 0=some (.brk (ids.length:Int)):=by
 have hch:=S.ch
 refine jS (λi:Nat=>(i:Int)) (by omega) rfl (λi hi'=> ?_) (by unfold uW; simp)
 have hx:ids[i]? =some ids[i]:=List.getElem?_eq_getElem hi'
 obtain⟨p,y,h1,h2,h3,h4⟩:=DC (hi _ (List.getElem_mem hi'))
 unfold uW
 rw[hH (by omega)]
 simp only[bO,hx,Int.ofNat_lt,hi',decide_true,if_true,Option.bind_some,m48 hF (show e.Chunks.length < 1000 by omega),h1]
 rw[if_neg (by simp)]
 simp only[aJ]
 rw[if_neg (by simp; omega)]
theorem OF {F:Nat} {c e:aB} {d:aP} {n:Int} {g:aG→Bool} (hF:1000≤F) (C:Sm c) (S:Sm e) (GE:Gd e) (K:Kp c d e g):aT (λs=>uX F c (e,n) s.1 s.2) F (0,0)=some (.brk (((c.Snaps.filter g).length:Int),(c.Snaps.length:Int))):=by
 have hsn:=C.sn
 have hen:=S.sn
 refine MM g (by omega) (λi s hx hm hi k hk=> ?_) (λk=>by unfold uX; simp)
 unfold uX
 rw[hH (i:=i) (by omega),hH (i:=k) (by omega)]
 simp only[bO,hx,Int.ofNat_lt,hi,decide_true,if_true,Option.bind_some,m47 hF (show e.Snaps.length < 1000 by omega)]
 cases hg:g s with
 | true=>
  have:e.Snaps.any (λy=>y.Man.Name.toList==s.Man.Name.toList)=false:=List.any_eq_false.2 λy hy=>by rw[K.n s hm hg y hy]; decide
  rw[gZ this]
  simp[aJ]
 | false=>
  obtain⟨s',h1,h2,h3⟩:=K.y s hm hg
  have ha:e.Snaps.any (λy=>y.Man.Name.toList==s.Man.Name.toList)=true:=List.any_eq_true.2 ⟨s',h1,by rw[h2]; simp⟩
  obtain⟨p,t,e1,e2,e3,e4⟩:=DC ha
  have ht:=List.mem_of_getElem? e2
  have:t=s':=IU GE.sm ht h1 (by rw[h2]; exact qW (by simpa using e3))
  subst this
  have mb:=S.man t h1
  have gm:=λp hp d hd=>(gsn S h1).2 p hp d hd
  obtain⟨ids,i1,i2,i3⟩:=m63 (F:=F) hF mb.2.1 (λp hp=>(mb.2.2 p hp).2) gm
  have L2:=OE (n:=n) hF S i3 (λd hd=>by
   obtain⟨p,hp,hd⟩:=(i2 d).1 hd
   exact List.all_eq_true.1 (List.all_eq_true.1 (GE.sp t h1) p hp) d hd)
  rw[h2] at i1
  have mm:=aE0 hF mb.2.1 (λp hp=>(mb.2.2 p hp).2)
  rw[e1]
  rw[if_neg (by simp)]
  simp only[aJ,bO,e2,Option.bind_some,h2]
  rw[if_neg (by simp; omega)]
  rw[h2] at mm
  simp only[mm,h3,i1,L2,Option.bind_some,aJ]
  simp[aJ]
theorem OH {F:Nat} {c:aB} {d:aP} {ok:Bool} {w:Int} {i:Nat} {t:bE} (hF:1000≤F) (C:Sm c) (ht:d.Items[i]? =some t):aT (λs=>rB F c (d,ok) (i:Int) s.1 s.2) F (w,0)=some (.brk (if t.Kind==3 && c.Snaps.any (λs=>s.Seq==t.Of) then 1 else w,(c.Snaps.length:Int))):=by
 have hsn:=C.sn
 have:=jS (body:=λs:Int×Int=>rB F c (d,ok) (i:Int) s.1 s.2) (s0:=(w,(0:Int))) (n:=c.Snaps.length) (F:=F) (λk:Nat=>(if t.Kind==3 && (c.Snaps.take k).any (λs=>s.Seq==t.Of) then 1 else w,(k:Int))) (by omega) (by simp) (λk hk=>by
  have hx:c.Snaps[k]? =some c.Snaps[k]:=List.getElem?_eq_getElem hk
  unfold rB
  simp only
  rw[hH (by omega),List.take_succ_eq_append_getElem hk]
  simp only[bO,hx,ht,Int.ofNat_lt,hk,decide_true,if_true,Option.bind_some,List.any_append,List.any_cons,List.any_nil,Bool.or_false]
  cases h3:t.Kind==3 with
  | false=>simp[aJ]
  | true=>
   simp only[if_true,aJ,Bool.true_and]
   have:(t.Of==(c.Snaps[k]).Seq)=((c.Snaps[k]).Seq==t.Of):=by rw[Bool.eq_iff_iff,beq_iff_eq,beq_iff_eq]; exact⟨Eq.symm,Eq.symm⟩
   rw[this]
   cases ((c.Snaps[k]).Seq==t.Of) <;> cases ((c.Snaps.take k).any λs=>s.Seq==t.Of) <;> simp[aJ]) (by unfold rB; simp)
 rw[this,List.take_length]
theorem OI {F:Nat} {c:aB} {d:aP} {ok:Bool} {w:Int} (hF:1000≤F) (C:Sm c) (hn:d.Items.length≤64):aT (λs=>pR F c (d,ok) s.1 s.2) F (w,0)=some (.brk (if c.Snaps.any (iL d.Items) then 1 else w,(d.Items.length:Int))):=by
 have:=jS (body:=λs:Int×Int=>pR F c (d,ok) s.1 s.2) (s0:=(w,(0:Int))) (n:=d.Items.length) (F:=F) (λk:Nat=>(if (d.Items.take k).any (λt=>t.Kind==3 && c.Snaps.any λs=>s.Seq==t.Of) then 1 else w,(k:Int))) (by omega) (by simp) (λk hk=>by
  have hx:d.Items[k]? =some d.Items[k]:=List.getElem?_eq_getElem hk
  unfold pR
  simp only
  rw[hH (by omega),List.take_succ_eq_append_getElem hk,OH hF C hx]
  simp only[Int.ofNat_lt,hk,decide_true,if_true,aJ,List.any_append,List.any_cons,List.any_nil,Bool.or_false]
  generalize ((d.Items[k]).Kind==3 && c.Snaps.any λs=>s.Seq==(d.Items[k]).Of)=a
  cases a <;> cases ((d.Items.take k).any λt=>t.Kind==3 && c.Snaps.any λs=>s.Seq==t.Of) <;> simp) (by unfold pR; simp)
 rw[this,List.take_length]
 congr 3
 have:d.Items.any (λt=>t.Kind==3 && c.Snaps.any λs=>s.Seq==t.Of)=c.Snaps.any (iL d.Items):=by
  rw[Bool.eq_iff_iff,List.any_eq_true,List.any_eq_true]
  constructor
  ·rintro⟨t,ht,h⟩
   simp only[Bool.and_eq_true] at h
   obtain⟨s,hs,h2⟩:=List.any_eq_true.1 h.2
   exact⟨s,hs,List.any_eq_true.2 ⟨t,ht,by rw[h.1,h2]; rfl⟩⟩
  ·rintro⟨s,hs,h⟩
   obtain⟨t,ht,h2⟩:=List.any_eq_true.1 h
   simp only[Bool.and_eq_true] at h2
   exact⟨t,ht,by rw[h2.1,Bool.true_and]; exact List.any_eq_true.2 ⟨s,hs,h2.2⟩⟩
 rw[this]
theorem OJ {F:Nat} {c e:aB} {d:aP} {ok:Bool} {n:Int} {g:aG→Bool} (hF:1000≤F) (C:Sm c) (S:Sm e) (K:Kp c d e g):aT (λs=>rC F c (d,ok) (e,n) s) F 0=some (.brk (c.Chunks.length:Int)):=by
 have hch:=C.ch
 have hec:=S.ch
 refine jS (λi:Nat=>(i:Int)) (by omega) rfl (λi hi=> ?_) (by unfold rC; simp)
 have hx:c.Chunks[i]? =some c.Chunks[i]:=List.getElem?_eq_getElem hi
 have hm:=List.getElem_mem hi
 generalize c.Chunks[i]=x at hx hm
 unfold rC
 rw[hH (by omega)]
 simp only[bO,hx,Int.ofNat_lt,hi,decide_true,if_true,Option.bind_some,m48 hF (show e.Chunks.length < 1000 by omega)]
 cases ha:e.Chunks.any (λy=>decide (y.Id=x.Id)) with
 | false=>rw[gZ ha]; simp[aJ]
 | true=>
  obtain⟨p,y,h1,h2,h3,h4⟩:=DC ha
  have hy:=List.mem_of_getElem? h2
  have xl:=(C.cl x hm).1
  have yl:=(S.cl y hy).1
  obtain⟨k1,k2,k3⟩:=K.k x hm y hy (by simpa using h3)
  have L10:aT (λs=>p6 F c (d,ok) (e,n) (i:Int) (p:Int) s) F 0=some (.brk (x.Locs.length:Int)):=by
   refine jS (λi:Nat=>(i:Int)) (by omega) rfl (λk hk=> ?_) (by unfold p6; simp[bO,hx])
   have hl:x.Locs[k]? =some x.Locs[k]:=List.getElem?_eq_getElem hk
   have hlm:=List.getElem_mem hk
   generalize x.Locs[k]=l at hl hlm
   obtain⟨r,r1,r2⟩:=n45 (F:=F) (l:=y.Locs) (x:=l) hF yl
   unfold p6
   rw[hH (by omega)]
   simp only[bO,hx,hl,h2,Int.ofNat_lt,hk,decide_true,if_true,Option.bind_some,r1]
   by_cases hv:l.Vol=d.Vol
   ·rw[if_neg (by simp[hv])]
    simp[aJ]
   ·have:=r2.2 (k1 l hlm hv)
    rw[if_pos (by simp[hv]),this]
    simp[aJ]
  have L12:aT (λs=>p7 F c (d,ok) (e,n) (i:Int) (p:Int) s) F 0=some (.brk (y.Locs.length:Int)):=by
   refine jS (λi:Nat=>(i:Int)) (by omega) rfl (λk hk=> ?_) (by unfold p7; simp[bO,h2])
   have hl:y.Locs[k]? =some y.Locs[k]:=List.getElem?_eq_getElem hk
   have hlm:=List.getElem_mem hk
   generalize y.Locs[k]=l at hl hlm
   obtain⟨r,r1,r2⟩:=n45 (F:=F) (l:=x.Locs) (x:=l) hF xl
   unfold p7
   rw[hH (by omega)]
   simp only[bO,hx,hl,h2,Int.ofNat_lt,hk,decide_true,if_true,Option.bind_some,r1]
   by_cases k4:d.Kind=4
   ·have hv:=k3 k4 l hlm
    have:r=true:=by
     rcases k2 l hlm with h | ⟨h,_⟩
     ·exact r2.2 h
     ·omega
    rw[this]
    simp[aJ,k4,hv]
   ·cases r with
    | true=>simp[aJ,k4]
    | false=>
     rcases k2 l hlm with h | ⟨h,h'⟩
     ·exact absurd (r2.2 h) (by decide)
     ·simp[aJ,h,h']
  rw[h1,if_neg (by simp)]
  simp only[aJ]
  rw[if_neg (by simp; omega),L10]
  simp only[aJ]
  rw[L12]
  rfl
theorem DD {q:List Int} {l:List lP} {a:lP} (gq:gL gI q) (gl:gL EB l) (ga:EB a):M13 1000 q l a=some true:=by
  have hF:1000≤1000:=Nat.le_refl _
  have key:T (M13 1000 q l a) λb=>b=true:=by
    unfold M13
    refine .after (.ite (λ_=>.brk (T.ite (λ_=>.some rfl) λh=>absurd rfl h)) λ_=>.bind _ (t27 hF) λb hb=>.ite (λ_=>.brk (T.ite (λ_=>.some rfl) λh=>absurd rfl h)) λhb0=>.bind _ (t27 hF) λb2 hb2=>.brk (T.ite (λ_=>.some rfl) λhb20=> ?_))
    have ho:=hb (by simpa using hb0)
    have ho2:=hb2 (by simpa using hb20)
    refine .bind _ (t29 hF gq) λq hq=>.bind _ (t28 hF hq.1 hq.2.1 hq.2.2 gl ho) λc hc=> ?_
    obtain⟨h,hg⟩:=hc
    have G:=lJ.1 hg
    refine .bind _ (t66 hF ⟨h,rng hg⟩ G λf hf=>⟨ho2 a (by simp) f hf,(ga.2.2.2.1 f hf).2⟩) λy hy=> ?_
    obtain⟨hd,hm⟩:=hy
    obtain⟨d,ok⟩:=y
    simp only at hd hm
    refine .ite (λ_=>.bindEq U4 (.some rfl)) λ_=> ?_
    obtain⟨e,n,he,hn⟩:=U8 hF h G hd hm
    refine .bindEq he ?_
    rcases hn with⟨hn,rfl⟩ | ⟨rfl,hS,hGe,heff⟩
    · refine .ite (λ_=> ?_) λh0=>absurd (by simpa using hn) h0
      have:M34 1000 dJ { Seq:=0,Snaps:= [],Chunks:= [],Exps:= [],Vols:= []}=some true:=by decide+kernel
      refine .of (a:=true) ?_ rfl
      rw[this]
      simp[aJ,U4]
    refine .ite (λh0=>absurd h0 (by simp)) λ_=> ?_
    obtain⟨g,K⟩:=VG h G hd hm heff
    have hsn:=h.sn
    have hlen:=List.length_filter_le g c.Snaps
    have hcnt:(c.Snaps.filter g).length+(c.Snaps.filter λs=> !g s).length=c.Snaps.length:=by
      generalize c.Snaps=m
      induction m with
      | nil=>rfl
      | cons a m ih=>
        rw[List.filter_cons,List.filter_cons]
        cases g a <;> simp <;> omega
    have kl:=K.l
    have kq:=K.q
    have kw:=K.w
    refine .of (a:=true) ?_ rfl
    rw[OF hF h hS hGe K]
    simp only[aJ]
    have fin:∀w:Int,(((c.Snaps.filter g).length:Int)=if c.Snaps.any (iL d.Items) then 1 else w)→
        (after (aT (λs=>pR 1000 c (d,ok) s.1 s.2) 1000 (w,0)) λx=>after (if (((c.Snaps.filter g).length:Int) !=x.1)=true then (some (.brk true)) else if (decide ((e.Snaps.length:Int) < (IntKind.wrap .i64 ((c.Snaps.length:Int) - ((c.Snaps.filter g).length:Int)))))=true then (some (.brk true)) else some (.brk (decide (e.Seq < c.Seq))):Option (Lp (Bool) (Bool))) λj960=>if j960=true then (some false) else after (aT (λs=>rC 1000 c (d,ok) (e,0) s) 1000 0) λr2461=>(U2 1000).bind λy2463=>some y2463)=some true:=λw hw=>by
      rw[OI hF h hd.it,OJ hF h hS K]
      simp only[aJ]
      rw[← hw,if_neg (by simp),wr (by omega) (by omega),if_neg (by simp; omega)]
      simp only[aJ]
      rw[if_neg (by simp; omega)]
      simp[U4,aJ]
    by_cases k2:d.Kind=2
    · rw[if_pos (.inl k2)] at kw
      rw[if_pos (by simp[k2])]
      simp only[aJ]
      exact fin 1 (by rw[kw]; split <;> rfl)
    · rw[if_neg (by simp[k2])]
      simp only[aJ]
      refine fin 0 ?_
      rw[kw]
      cases c.Snaps.any (iL d.Items) <;> simp[k2]
  obtain⟨b,hb,rfl⟩:=key
  exact hb
end Go.Proofs.YtbbifdfldpfphaaGreat
