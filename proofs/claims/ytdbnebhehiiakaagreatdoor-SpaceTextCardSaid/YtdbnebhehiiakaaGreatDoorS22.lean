/- Lemmas and contracts, each under its own condition: Equal lists: slices.Equal and the reference's SameDims, SameAttrs, SameVals. (printed by gen_same.py) Equal cells, equal arrays: the program's Same and the reference's. Equal arrays: the reference's Equal, the program's Same and the reference's. -/
import Derived.BigQuiet
import Derived.Test.YtdbnebhehiiakaaGreatDoorS19
import Derived.Test.YtdbnebhehiiakaaGreatDoorS5
import Derived.Test.YtdbnebhehiiakaaGreatDoorSameA
namespace Go.Proofs.YtdbnebhehiiakaaGreatDoor
open Go.RowKit
instance:DecidableEq DimT:=fun a b => decidable_of_iff (a.name=b.name∧a.lo=b.lo∧a.hi=b.hi) ⟨fun h => by cases a; cases b; simp only at h; obtain ⟨rfl,rfl,rfl⟩:=h; rfl,fun h => by subst h; exact ⟨rfl,rfl,rfl⟩⟩
instance:DecidableEq AttrT:=fun a b => decidable_of_iff (a.name=b.name∧a.ty=b.ty) ⟨fun h => by cases a; cases b; simp only at h; obtain ⟨rfl,rfl⟩:=h; rfl,fun h => by subst h; exact ⟨rfl,rfl⟩⟩
set_option maxHeartbeats 1600000 in
set_option maxRecDepth 100000 in
theorem sameDims_any (a b:List DimT) (v u:Value) (w:World) (ha:Dims w v a) (hb:Dims w u b) :
  Calls Tryz.prog 47 #[v,u] w (RetDr (.bool (decide (a=b))) w):=by
 have HA:=Lib.hid ha
 have HB:=Lib.hid hb
 have hla:=ha.len
 obtain ⟨p,cap,rfl,c1,c2⟩:=ha.shape
 obtain ⟨p',cap',rfl,c1',c2'⟩:=hb.shape
 by_cases hl:a.length=b.length
 ·obtain ⟨R,hR⟩:∃ R,R=decide (a=b):=⟨_,rfl⟩
  rw [← hR]
  have HR:=Lib.hid hR
  have HL:=Lib.hid hl
  rw [← hl] at HB ⊢
  clear ha hb hl hR c1'
  go_enter Tryz.func47,Tryz.ntmps47
  go_wp2
  go_loopw [5] (fun iv wr => ∃ (i nq:Nat),i≤a.length∧iv=.int .i64 (i:Nat)∧Hid (a.take i=b.take i)∧wr=w.drewN nq) (fun iv _ => a.length - (intOf iv).toNat)
  case atStart => exact ⟨0,0,Nat.zero_le _,rfl,rfl,rfl⟩
  case round =>
   obtain ⟨i,n0,hi,rfl,HT,rfl⟩:=hrel
   by_cases hlt:i<a.length
   ·obtain ⟨g,o,x,ea,hx,hr⟩:=HA.out.at i hlt
    obtain ⟨g',o',y,ea',hy,hr'⟩:=Ls.at (n:=a.length) HB.out i (by rw [← HL.out]; exact hlt)
    subst ea ea'
    have i0:(0:Int)≤(i:Int):=by omega
    have i1:(i:Int)<(a.length:Int):=by omega
    have HI1:Hid (i+1≤a.length):=hlt
    have HI2:Hid (a.length - (i+1)<a.length - i):=by show _<_; omega
    have HX:=Lib.hid hx
    have HY:=Lib.hid hy
    obtain ⟨x0,x1,x2⟩:=hr
    obtain ⟨y0,y1,y2⟩:=hr'
    obtain ⟨p0,p1,p2⟩:=x
    obtain ⟨q0,q1,q2⟩:=y
    simp only at x0 x1 x2 y0 y1 y2
    clear hx hy
    by_cases hxy:p0=q0∧p1=q1∧p2=q2
    ·obtain ⟨rfl,rfl,rfl⟩:=hxy
     have HT2:Hid (a.take (i+1)=b.take (i+1)):=by show _=_; rw [take_snoc' HX.out,take_snoc' HY.out,HT.out]
     go_wp2_with fail
     go_quiet (fail)
     go_wp2
     exact ⟨⟨i+1,_,HI1.out,by go_num,HT2.out,rfl⟩,HI2.out⟩
    ·have HRR:Hid (R=false):=by
      show _=_
      rw [HR.out]
      apply decide_eq_false
      intro e
      subst e
      have:=HX.out.symm.trans HY.out
      injection this with this
      injection this with e0 e1 e2
      exact hxy ⟨e0,e1,e2⟩
     have hc:(p0 ≠ q0) ∨ (p0=q0∧p1 ≠ q1) ∨ (p0=q0∧p1=q1∧p2 ≠ q2):=by
      by_cases c0:p0=q0
      ·skip
       by_cases c1:p1=q1
       ·skip
        by_cases c2:p2=q2
        ·exact absurd ⟨c0,c1,c2⟩ hxy
        ·exact .inr (.inr (⟨c0,c1,c2⟩))
       ·exact .inr (.inl ⟨c0,c1⟩)
      ·exact .inl c0
     clear hxy
     rcases hc with hd | ⟨rfl,hd⟩ | ⟨rfl,rfl,hd⟩
     ·have b1:(p0 == q0)=false:=beq_eq_false_iff_ne.2 hd
      clear hd
      go_wp2_with fail
      go_quiet (fail)
      go_wp2
      go_ret
      rw [HRR.out]
      refine ⟨rfl,n0+nq,?_⟩
      first | rfl | rw [World.drewN_drewN]
     ·have b1:(p1 == q1)=false:=beq_eq_false_iff_ne.2 hd
      clear hd
      go_wp2_with fail
      go_quiet (fail)
      go_wp2
      go_ret
      rw [HRR.out]
      refine ⟨rfl,n0+nq,?_⟩
      first | rfl | rw [World.drewN_drewN]
     ·have b1:(p2 == q2)=false:=beq_eq_false_iff_ne.2 hd
      clear hd
      go_wp2_with fail
      go_quiet (fail)
      go_wp2
      go_ret
      rw [HRR.out]
      refine ⟨rfl,n0+nq,?_⟩
      first | rfl | rw [World.drewN_drewN]
   ·obtain rfl:i=a.length:=by omega
    have HRR:Hid (R=true):=by
     show _=_
     rw [HR.out]
     apply decide_eq_true
     have:=HT.out
     rwa [List.take_length,HL.out,List.take_length] at this
    go_wp2
    go_ret
    rw [HRR.out]
    exact ⟨rfl,_,rfl⟩
 ·have hl':¬ ((a.length:Int)=b.length):=by omega
  have e:decide (a=b)=false:=decide_eq_false (fun e => hl (by rw [e]))
  rw [e]
  clear ha hb hl e
  go_enter Tryz.func47,Tryz.ntmps47
  go_wp2
  go_ret
  exact ⟨rfl,0,rfl⟩
set_option maxHeartbeats 1600000 in
set_option maxRecDepth 100000 in
theorem sameAttrs_any (a b:List AttrT) (v u:Value) (w:World) (ha:Attrs w v a) (hb:Attrs w u b) :
  Calls Tryz.prog 48 #[v,u] w (RetDr (.bool (decide (a=b))) w):=by
 have HA:=Lib.hid ha
 have HB:=Lib.hid hb
 have hla:=ha.len
 obtain ⟨p,cap,rfl,c1,c2⟩:=ha.shape
 obtain ⟨p',cap',rfl,c1',c2'⟩:=hb.shape
 by_cases hl:a.length=b.length
 ·obtain ⟨R,hR⟩:∃ R,R=decide (a=b):=⟨_,rfl⟩
  rw [← hR]
  have HR:=Lib.hid hR
  have HL:=Lib.hid hl
  rw [← hl] at HB ⊢
  clear ha hb hl hR c1'
  go_enter Tryz.func48,Tryz.ntmps48
  go_wp2
  go_loopw [5] (fun iv wr => ∃ (i nq:Nat),i≤a.length∧iv=.int .i64 (i:Nat)∧Hid (a.take i=b.take i)∧wr=w.drewN nq) (fun iv _ => a.length - (intOf iv).toNat)
  case atStart => exact ⟨0,0,Nat.zero_le _,rfl,rfl,rfl⟩
  case round =>
   obtain ⟨i,n0,hi,rfl,HT,rfl⟩:=hrel
   by_cases hlt:i<a.length
   ·obtain ⟨g,o,x,ea,hx,hr⟩:=HA.out.at i hlt
    obtain ⟨g',o',y,ea',hy,hr'⟩:=Ls.at (n:=a.length) HB.out i (by rw [← HL.out]; exact hlt)
    subst ea ea'
    have i0:(0:Int)≤(i:Int):=by omega
    have i1:(i:Int)<(a.length:Int):=by omega
    have HI1:Hid (i+1≤a.length):=hlt
    have HI2:Hid (a.length - (i+1)<a.length - i):=by show _<_; omega
    have HX:=Lib.hid hx
    have HY:=Lib.hid hy
    obtain ⟨x0,x1⟩:=hr
    obtain ⟨y0,y1⟩:=hr'
    obtain ⟨p0,p1⟩:=x
    obtain ⟨q0,q1⟩:=y
    simp only at x0 x1 y0 y1
    clear hx hy
    by_cases hxy:p0=q0∧p1=q1
    ·obtain ⟨rfl,rfl⟩:=hxy
     have HT2:Hid (a.take (i+1)=b.take (i+1)):=by show _=_; rw [take_snoc' HX.out,take_snoc' HY.out,HT.out]
     go_wp2_with fail
     go_quiet (fail)
     go_wp2
     exact ⟨⟨i+1,_,HI1.out,by go_num,HT2.out,rfl⟩,HI2.out⟩
    ·have HRR:Hid (R=false):=by
      show _=_
      rw [HR.out]
      apply decide_eq_false
      intro e
      subst e
      have:=HX.out.symm.trans HY.out
      injection this with this
      injection this with e0 e1
      exact hxy ⟨e0,e1⟩
     have hc:(p0 ≠ q0) ∨ (p0=q0∧p1 ≠ q1):=by
      by_cases c0:p0=q0
      ·skip
       by_cases c1:p1=q1
       ·exact absurd ⟨c0,c1⟩ hxy
       ·exact .inr (⟨c0,c1⟩)
      ·exact .inl c0
     clear hxy
     rcases hc with hd | ⟨rfl,hd⟩
     ·have b1:(p0 == q0)=false:=beq_eq_false_iff_ne.2 hd
      clear hd
      go_wp2_with fail
      go_quiet (fail)
      go_wp2
      go_ret
      rw [HRR.out]
      refine ⟨rfl,n0+nq,?_⟩
      first | rfl | rw [World.drewN_drewN]
     ·have b1:(p1 == q1)=false:=beq_eq_false_iff_ne.2 hd
      clear hd
      go_wp2_with fail
      go_quiet (fail)
      go_wp2
      go_ret
      rw [HRR.out]
      refine ⟨rfl,n0+nq,?_⟩
      first | rfl | rw [World.drewN_drewN]
   ·obtain rfl:i=a.length:=by omega
    have HRR:Hid (R=true):=by
     show _=_
     rw [HR.out]
     apply decide_eq_true
     have:=HT.out
     rwa [List.take_length,HL.out,List.take_length] at this
    go_wp2
    go_ret
    rw [HRR.out]
    exact ⟨rfl,_,rfl⟩
 ·have hl':¬ ((a.length:Int)=b.length):=by omega
  have e:decide (a=b)=false:=decide_eq_false (fun e => hl (by rw [e]))
  rw [e]
  clear ha hb hl e
  go_enter Tryz.func48,Tryz.ntmps48
  go_wp2
  go_ret
  exact ⟨rfl,0,rfl⟩
set_option maxHeartbeats 1600000 in
set_option maxRecDepth 100000 in
theorem sameVals_any (a b:List Va) (v u:Value) (w:World) (ha:Vals w v a) (hb:Vals w u b) :
  Calls Tryz.prog 94 #[v,u] w (RetDr (.bool (decide (a=b))) w):=by
 have HA:=Lib.hid ha
 have HB:=Lib.hid hb
 have hla:=ha.len
 obtain ⟨p,cap,rfl,c1,c2⟩:=ha.shape
 obtain ⟨p',cap',rfl,c1',c2'⟩:=hb.shape
 by_cases hl:a.length=b.length
 ·obtain ⟨R,hR⟩:∃ R,R=decide (a=b):=⟨_,rfl⟩
  rw [← hR]
  have HR:=Lib.hid hR
  have HL:=Lib.hid hl
  rw [← hl] at HB ⊢
  clear ha hb hl hR c1'
  go_enter Tryz.func94,Tryz.ntmps94
  go_wp2
  go_loopw [5] (fun iv wr => ∃ (i nq:Nat),i≤a.length∧iv=.int .i64 (i:Nat)∧Hid (a.take i=b.take i)∧wr=w.drewN nq) (fun iv _ => a.length - (intOf iv).toNat)
  case atStart => exact ⟨0,0,Nat.zero_le _,rfl,rfl,rfl⟩
  case round =>
   obtain ⟨i,n0,hi,rfl,HT,rfl⟩:=hrel
   by_cases hlt:i<a.length
   ·obtain ⟨g,o,x,ea,hx,hr⟩:=HA.out.at i hlt
    obtain ⟨g',o',y,ea',hy,hr'⟩:=Ls.at (n:=a.length) HB.out i (by rw [← HL.out]; exact hlt)
    subst ea ea'
    have i0:(0:Int)≤(i:Int):=by omega
    have i1:(i:Int)<(a.length:Int):=by omega
    have HI1:Hid (i+1≤a.length):=hlt
    have HI2:Hid (a.length - (i+1)<a.length - i):=by show _<_; omega
    have HX:=Lib.hid hx
    have HY:=Lib.hid hy
    obtain ⟨x0,x1,x2,x3⟩:=hr
    obtain ⟨y0,y1,y2,y3⟩:=hr'
    obtain ⟨p0,p1,p2,p3⟩:=x
    obtain ⟨q0,q1,q2,q3⟩:=y
    simp only at x0 x1 x2 x3 y0 y1 y2 y3
    clear hx hy
    by_cases hxy:p0=q0∧p1=q1∧p2=q2∧p3=q3
    ·obtain ⟨rfl,rfl,rfl,rfl⟩:=hxy
     have HT2:Hid (a.take (i+1)=b.take (i+1)):=by show _=_; rw [take_snoc' HX.out,take_snoc' HY.out,HT.out]
     go_wp2_with fail
     go_quiet (fail)
     go_wp2
     exact ⟨⟨i+1,_,HI1.out,by go_num,HT2.out,rfl⟩,HI2.out⟩
    ·have HRR:Hid (R=false):=by
      show _=_
      rw [HR.out]
      apply decide_eq_false
      intro e
      subst e
      have:=HX.out.symm.trans HY.out
      injection this with this
      injection this with e0 e1 e2 e3
      exact hxy ⟨e0,e1,e2,e3⟩
     have hc:(p0 ≠ q0) ∨ (p0=q0∧p1 ≠ q1) ∨ (p0=q0∧p1=q1∧p2 ≠ q2) ∨ (p0=q0∧p1=q1∧p2=q2∧p3 ≠ q3):=by
      by_cases c0:p0=q0
      ·skip
       by_cases c1:p1=q1
       ·skip
        by_cases c2:p2=q2
        ·skip
         by_cases c3:p3=q3
         ·exact absurd ⟨c0,c1,c2,c3⟩ hxy
         ·exact .inr (.inr (.inr (⟨c0,c1,c2,c3⟩)))
        ·exact .inr (.inr (.inl ⟨c0,c1,c2⟩))
       ·exact .inr (.inl ⟨c0,c1⟩)
      ·exact .inl c0
     clear hxy
     rcases hc with hd | ⟨rfl,hd⟩ | ⟨rfl,rfl,hd⟩ | ⟨rfl,rfl,rfl,hd⟩
     ·have b1:(p0 == q0)=false:=beq_eq_false_iff_ne.2 hd
      clear hd
      go_wp2_with fail
      go_quiet (fail)
      go_wp2
      go_ret
      rw [HRR.out]
      refine ⟨rfl,n0+nq,?_⟩
      first | rfl | rw [World.drewN_drewN]
     ·have b1:(p1 == q1)=false:=beq_eq_false_iff_ne.2 hd
      clear hd
      go_wp2_with fail
      go_quiet (fail)
      go_wp2
      go_ret
      rw [HRR.out]
      refine ⟨rfl,n0+nq,?_⟩
      first | rfl | rw [World.drewN_drewN]
     ·have b1:(p2 == q2)=false:=beq_eq_false_iff_ne.2 hd
      clear hd
      go_wp2_with fail
      go_quiet (fail)
      go_wp2
      go_ret
      rw [HRR.out]
      refine ⟨rfl,n0+nq,?_⟩
      first | rfl | rw [World.drewN_drewN]
     ·have b1:(p3 == q3)=false:=beq_eq_false_iff_ne.2 hd
      clear hd
      go_wp2_with fail
      go_quiet (fail)
      go_wp2
      go_ret
      rw [HRR.out]
      refine ⟨rfl,n0+nq,?_⟩
      first | rfl | rw [World.drewN_drewN]
   ·obtain rfl:i=a.length:=by omega
    have HRR:Hid (R=true):=by
     show _=_
     rw [HR.out]
     apply decide_eq_true
     have:=HT.out
     rwa [List.take_length,HL.out,List.take_length] at this
    go_wp2
    go_ret
    rw [HRR.out]
    exact ⟨rfl,_,rfl⟩
 ·have hl':¬ ((a.length:Int)=b.length):=by omega
  have e:decide (a=b)=false:=decide_eq_false (fun e => hl (by rw [e]))
  rw [e]
  clear ha hb hl e
  go_enter Tryz.func94,Tryz.ntmps94
  go_wp2
  go_ret
  exact ⟨rfl,0,rfl⟩
instance:DecidableEq CellT:=fun a b => decidable_of_iff (a.co=b.co∧a.vals=b.vals) ⟨fun h => by cases a; cases b; simp only at h; obtain ⟨rfl,rfl⟩:=h; rfl,fun h => by subst h; exact ⟨rfl,rfl⟩⟩
theorem cellT_eq (a b:CellT):decide (a=b)=(decide (a.co=b.co) && decide (a.vals=b.vals)):=by
 rw [← Bool.decide_and,decide_eq_decide]
 exact ⟨fun h => by subst h; exact ⟨rfl,rfl⟩,fun h => by cases a; cases b; simp only at h; obtain ⟨rfl,rfl⟩:=h; rfl⟩
set_option maxHeartbeats 3200000 in
set_option maxRecDepth 100000 in
theorem sameCells_any (a b:List CellT) (v u:Value) (w:World) (ha:CellsA w v a) (hb:CellsA w u b) :
  Calls Tryz.prog 49 #[v,u] w (RetV' (.bool (decide (a=b))) w):=by
 have HA:=Lib.hid ha
 have HB:=Lib.hid hb
 have hla:=ha.len
 obtain ⟨p,cap,rfl,c1,c2⟩:=ha.shape
 obtain ⟨p',cap',rfl,c1',c2'⟩:=hb.shape
 by_cases hl:a.length=b.length
 ·obtain ⟨R,hR⟩:∃ R,R=decide (a=b):=⟨_,rfl⟩
  rw [← hR]
  have HR:=Lib.hid hR
  have HL:=Lib.hid hl
  rw [← hl] at HB ⊢
  clear ha hb hl hR c1'
  go_enter Tryz.func49,Tryz.ntmps49
  go_wp2
  go_loopw [5] (fun iv wr => ∃ i:Nat,i≤a.length∧iv=.int .i64 (i:Nat)∧Hid (a.take i=b.take i)∧Below w.heap.size w wr) (fun iv _ => a.length - (intOf iv).toNat)
  case atStart => exact ⟨0,Nat.zero_le _,rfl,rfl,Below.refl _ _⟩
  case round =>
   obtain ⟨i,hi,rfl,HT,hbw⟩:=hrel
   have HBW:=Lib.hid hbw
   have HAW:=Lib.hid (HA.out.later CellR.lasts hbw)
   have HBBW:=Lib.hid (HB.out.later CellR.lasts hbw)
   clear hbw
   by_cases hlt:i<a.length
   ·obtain ⟨g,o,x,ea,hx,hr⟩:=HAW.out.at i hlt
    obtain ⟨g',o',y,ea',hy,hr'⟩:=Ls.at (n:=a.length) HBBW.out i (by rw [← HL.out]; exact hlt)
    subst ea ea'
    have i0:(0:Int)≤(i:Int):=by omega
    have i1:(i:Int)<(a.length:Int):=by omega
    have HI1:Hid (i+1≤a.length):=hlt
    have HI2:Hid (a.length - (i+1)<a.length - i):=by show _<_; omega
    obtain ⟨v1,v2,x0,x1,m1,m2⟩:=hr.ex
    obtain ⟨u1,u2,y0,y1,n1,n2⟩:=hr'.ex
    have HD:Hid ((decide (x=y)=true→a.take (i+1)=b.take (i+1))∧(decide (x=y)=false→R=false)):=by
     refine ⟨fun h => ?_,fun h => ?_⟩
     ·rw [take_snoc' hx,take_snoc' hy,HT.out,of_decide_eq_true h]
     ·rw [HR.out]
      apply decide_eq_false
      intro e
      subst e
      have:=hx.symm.trans hy
      exact (of_decide_eq_false h) (Option.some.inj this)
    rw [cellT_eq] at HD
    have C1:=Lib.hid (fun n => sameInts_any x.co y.co v1 u1 (wr.drewN n) (m1.later IntR.lasts (below_drewN' _ _)) (n1.later IntR.lasts (below_drewN' _ _)))
    have C2:=Lib.hid (fun n => sameVals_any x.vals y.vals v2 u2 (wr.drewN n) (m2.later ValR.lasts (below_drewN' _ _)) (n2.later ValR.lasts (below_drewN' _ _)))
    obtain ⟨q1,p1,rfl,-⟩:=m1.shape
    obtain ⟨q2,p2,rfl,-⟩:=m2.shape
    obtain ⟨q3,p3,rfl,-⟩:=n1.shape
    obtain ⟨q4,p4,rfl,-⟩:=n2.shape
    obtain ⟨D1,hD1⟩:∃ D,D=decide (x.co=y.co):=⟨_,rfl⟩
    obtain ⟨D2,hD2⟩:∃ D,D=decide (x.vals=y.vals):=⟨_,rfl⟩
    rw [← hD1] at HD C1
    rw [← hD2] at HD C2
    clear hx hy hr hr' m1 m2 n1 n2 hD1 hD2
    cases D1 with
    | false =>
     have HRR:=Lib.hid (HD.out.2 rfl)
     clear HD C2
     go_wp2_with fail
     go_quiet ((go_at_call 26; exact Calls.quiet_of (C1.out _)))
     have HB4:=Lib.hid (below_keep HBW.out (below_drewN' wr nq))
     go_wp2
     go_ret
     rw [HRR.out]
     exact ⟨rfl,HB4.out⟩
    | true =>
     cases D2 with
     | false =>
      have HRR:=Lib.hid (HD.out.2 rfl)
      clear HD
      go_wp2_with fail
      go_quiet (first | (go_at_call 26; exact Calls.quiet_of (C1.out _)) | (go_at_call 94; exact Calls.quiet_of (C2.out _)))
      have HB4:=Lib.hid (below_keep HBW.out (below_drewN' wr nq))
      go_wp2
      go_ret
      rw [HRR.out]
      exact ⟨rfl,HB4.out⟩
     | true =>
      have HRR:=Lib.hid (HD.out.1 rfl)
      clear HD
      go_wp2_with fail
      go_quiet (first | (go_at_call 26; exact Calls.quiet_of (C1.out _)) | (go_at_call 94; exact Calls.quiet_of (C2.out _)))
      have HB4:=Lib.hid (below_keep HBW.out (below_drewN' wr nq))
      go_wp2
      exact ⟨⟨i+1,HI1.out,by go_num,HRR.out,HB4.out⟩,HI2.out⟩
   ·obtain rfl:i=a.length:=by omega
    have HRR:Hid (R=true):=by
     show _=_
     rw [HR.out]
     apply decide_eq_true
     have:=HT.out
     rwa [List.take_length,HL.out,List.take_length] at this
    go_wp2
    go_ret
    rw [HRR.out]
    exact ⟨rfl,HBW.out⟩
 ·have hl':¬ ((a.length:Int)=b.length):=by omega
  have e:decide (a=b)=false:=decide_eq_false (fun e => hl (by rw [e]))
  rw [e]
  clear ha hb hl e
  go_enter Tryz.func49,Tryz.ntmps49
  go_wp2
  go_ret
  exact ⟨rfl,Below.refl _ _⟩
def eqA (x y:ArrT):Bool:=decide (x.dims=y.dims) && decide (x.attrs=y.attrs) && decide (x.cells=y.cells)
theorem arr2_at (w:World) (v1 v2 v3 u1 u2 u3:Value):∃ W1,W1=(w.alloc (.cells #[v1,v2,v3] 26)).alloc (.cells #[u1,u2,u3] 26)∧Below w.heap.size w W1 ∧
  ∀ w',Below W1.heap.size W1 w'→w'.cell? ⟨w.heap.size,0,none⟩=some v1∧w'.cell? ⟨w.heap.size,1,none⟩=some v2∧w'.cell? ⟨w.heap.size,2,none⟩=some v3∧w'.cell? ⟨w.heap.size+1,0,none⟩=some u1∧w'.cell? ⟨w.heap.size+1,1,none⟩=some u2∧w'.cell? ⟨w.heap.size+1,2,none⟩=some u3:=by
 refine ⟨_,rfl,(below_alloc _ _).trans ((below_alloc _ _).mono (by simp)),fun w' hb => ?_⟩
 have h1:∀ j,w'.cell? ⟨w.heap.size,j,none⟩=(w.alloc (.cells #[v1,v2,v3] 26)).cell? ⟨w.heap.size,j,none⟩:=fun j => by
  rw [hb.cell (p:=⟨w.heap.size,j,none⟩) (by simp; omega),World.cell?_alloc_lt _ _ _ (by simp)]
 have h2:∀ j,w'.cell? ⟨w.heap.size+1,j,none⟩=((w.alloc (.cells #[v1,v2,v3] 26)).alloc (.cells #[u1,u2,u3] 26)).cell? ⟨w.heap.size+1,j,none⟩:=fun j => by
  rw [hb.cell (p:=⟨w.heap.size+1,j,none⟩) (by simp)]
 refine ⟨?_,?_,?_,?_,?_,?_⟩
 ·rw [h1,World.cell?_alloc_at _ _ _ _ rfl]; rfl
 ·rw [h1,World.cell?_alloc_at _ _ _ _ rfl]; rfl
 ·rw [h1,World.cell?_alloc_at _ _ _ _ rfl]; rfl
 ·rw [h2,World.cell?_alloc_at _ _ _ _ (by simp)]; rfl
 ·rw [h2,World.cell?_alloc_at _ _ _ _ (by simp)]; rfl
 ·rw [h2,World.cell?_alloc_at _ _ _ _ (by simp)]; rfl
set_option maxRecDepth 100000 in
theorem equal_any (x y:ArrT) (vd va vc ud ua uc:Value) (w:World) (hx:ArrR w vd va vc x) (hy:ArrR w ud ua uc y) :
  Calls Tryz.prog 11 #[.agg #[vd,va,vc],.agg #[ud,ua,uc]] w (RetV' (.bool (eqA x y)) w):=by
 have c1:=fun w1 (hb:Below w.heap.size w w1) => (sameDims_any x.dims y.dims vd ud w1 (hx.dims.later DimR.lasts hb) (hy.dims.later DimR.lasts hb)).mono fun e w' h => h.below
 have c2:=fun w1 (hb:Below w.heap.size w w1) => (sameAttrs_any x.attrs y.attrs va ua w1 (hx.attrs.later AttrR.lasts hb) (hy.attrs.later AttrR.lasts hb)).mono fun e w' h => h.below
 have c3:=fun w1 (hb:Below w.heap.size w w1) => sameCells_any x.cells y.cells vc uc w1 (hx.cells.later CellR.lasts hb) (hy.cells.later CellR.lasts hb)
 unfold eqA
 obtain ⟨A1,hA1⟩:∃ A,A=decide (x.dims=y.dims):=⟨_,rfl⟩
 obtain ⟨A2,hA2⟩:∃ A,A=decide (x.attrs=y.attrs):=⟨_,rfl⟩
 obtain ⟨A3,hA3⟩:∃ A,A=decide (x.cells=y.cells):=⟨_,rfl⟩
 rw [← hA1] at c1 ⊢
 rw [← hA2] at c2 ⊢
 rw [← hA3] at c3 ⊢
 obtain ⟨p0,k0,rfl,-⟩:=hx.dims.shape
 obtain ⟨p1,k1,rfl,-⟩:=hx.attrs.shape
 obtain ⟨p2,k2,rfl,-⟩:=hx.cells.shape
 obtain ⟨p3,k3,rfl,-⟩:=hy.dims.shape
 obtain ⟨p4,k4,rfl,-⟩:=hy.attrs.shape
 obtain ⟨p5,k5,rfl,-⟩:=hy.cells.shape
 obtain ⟨W1,hW1,hb1,hbx⟩:=arr2_at w (.slice p0 x.dims.length k0) (.slice p1 x.attrs.length k1) (.slice p2 x.cells.length k2) (.slice p3 y.dims.length k3) (.slice p4 y.attrs.length k4) (.slice p5 y.cells.length k5)
 have HB1:=Lib.hid hb1
 have HBX:=Lib.hid hbx
 have C1:=Lib.hid (fun w1 (hb:Below W1.heap.size W1 w1) => c1 w1 (below_keep hb1 hb))
 have C2:=Lib.hid (fun w1 (hb:Below W1.heap.size W1 w1) => c2 w1 (below_keep hb1 hb))
 have C3:=Lib.hid (fun w1 (hb:Below W1.heap.size W1 w1) => c3 w1 (below_keep hb1 hb))
 clear hx hy hb1 hbx hA1 hA2 hA3 c1 c2 c3
 cases A1 with
 | false =>
  rw [Bool.false_and,Bool.false_and]
  go_enter Tryz.func11,Tryz.ntmps11
  go_wp2_with fail
  rw [← hW1]
  refine (C1.out _ (Below.refl _ _)).mono ?_
  rintro e x1 ⟨rfl,hb⟩
  have B1:Hid (Below W1.heap.size W1 x1):=hb
  obtain ⟨d0,d1,d2,d3,d4,d5⟩:=HBX.out _ B1.out
  clear hb hW1
  go_wp2
  go_ret
  exact ⟨rfl,below_keep HB1.out B1.out⟩
 | true =>
  cases A2 with
  | false =>
   rw [Bool.true_and,Bool.false_and]
   go_enter Tryz.func11,Tryz.ntmps11
   go_wp2_with fail
   rw [← hW1]
   refine (C1.out _ (Below.refl _ _)).mono ?_
   rintro e x1 ⟨rfl,hb⟩
   have B1:Hid (Below W1.heap.size W1 x1):=hb
   obtain ⟨d0,d1,d2,d3,d4,d5⟩:=HBX.out _ B1.out
   clear hb hW1
   go_wp2_with fail
   refine (C2.out _ B1.out).mono ?_
   rintro e x2 ⟨rfl,hb⟩
   have B2:Hid (Below W1.heap.size W1 x2):=below_keep B1.out hb
   clear d0 d1 d2 d3 d4 d5
   obtain ⟨d0,d1,d2,d3,d4,d5⟩:=HBX.out _ B2.out
   clear hb
   go_wp2
   go_ret
   exact ⟨rfl,below_keep HB1.out B2.out⟩
  | true =>
   rw [Bool.true_and,Bool.true_and]
   go_enter Tryz.func11,Tryz.ntmps11
   go_wp2_with fail
   rw [← hW1]
   refine (C1.out _ (Below.refl _ _)).mono ?_
   rintro e x1 ⟨rfl,hb⟩
   have B1:Hid (Below W1.heap.size W1 x1):=hb
   obtain ⟨d0,d1,d2,d3,d4,d5⟩:=HBX.out _ B1.out
   clear hb hW1
   go_wp2_with fail
   refine (C2.out _ B1.out).mono ?_
   rintro e x2 ⟨rfl,hb⟩
   have B2:Hid (Below W1.heap.size W1 x2):=below_keep B1.out hb
   clear d0 d1 d2 d3 d4 d5
   obtain ⟨d0,d1,d2,d3,d4,d5⟩:=HBX.out _ B2.out
   clear hb
   go_wp2_with fail
   refine (C3.out _ B2.out).mono ?_
   rintro e x3 ⟨rfl,hb⟩
   have B3:Hid (Below W1.heap.size W1 x3):=below_keep B2.out hb
   clear d0 d1 d2 d3 d4 d5
   obtain ⟨d0,d1,d2,d3,d4,d5⟩:=HBX.out _ B3.out
   clear hb
   go_wp2
   go_ret
   exact ⟨rfl,below_keep HB1.out B3.out⟩
end Go.Proofs.YtdbnebhehiiakaaGreatDoor
