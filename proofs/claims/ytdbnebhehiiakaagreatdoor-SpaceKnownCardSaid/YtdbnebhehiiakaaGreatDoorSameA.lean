/- tesseractref02.SameInts, SameBox, tesseractlaw02.same: contracts. -/
import Derived.Test.YtdbnebhehiiakaaGreatDoorS4
namespace Go.Proofs.YtdbnebhehiiakaaGreatDoor
open Go.RowKit
def RetDr (v:Value) (w:World) (e:Ending) (w':World):Prop:=e=.returned v∧∃ n,w'=w.drewN n
theorem RetDr.below {v:Value} {w w':World} {e:Ending} (h:RetDr v w e w'):e=.returned v∧Below w.heap.size w w':=by
 obtain ⟨h1,n,rfl⟩:=h
 exact ⟨h1,below_drewN' w n⟩
set_option maxHeartbeats 1600000 in
theorem sameInts_any (a b:List Int) (v u:Value) (w:World) (ha:Ints w v a) (hb:Ints w u b) :
  Calls Tryz.prog 26 #[v,u] w (RetDr (.bool (decide (a=b))) w):=by
 have HA:=Lib.hid ha
 have HB:=Lib.hid hb
 have hla:=ha.len
 obtain ⟨p,cap,rfl,c1,c2⟩:=ha.shape
 obtain ⟨p',cap',rfl,c1',c2'⟩:=hb.shape
 by_cases hl:a.length=b.length
 ·obtain ⟨R,hR⟩:∃ R,R=decide (a=b):=⟨_,rfl⟩
  rw [← hR]
  have HR:=Lib.hid hR
  have HL:=Lib.hid hl
  rw [← hl] at HB ⊢
  clear ha hb hl hR c1'
  go_enter Tryz.func26,Tryz.ntmps26
  go_wp2
  go_loopw [5] (fun iv wr => ∃ (i nq:Nat),i≤a.length∧iv=.int .i64 (i:Nat)∧Hid (a.take i=b.take i)∧wr=w.drewN nq) (fun iv _ => a.length - (intOf iv).toNat)
  case atStart => exact ⟨0,0,Nat.zero_le _,rfl,rfl,rfl⟩
  case round =>
   obtain ⟨i,n0,hi,rfl,HT,rfl⟩:=hrel
   by_cases hlt:i<a.length
   ·obtain ⟨g,o,x,ea,hx,hr⟩:=HA.out.at i hlt
    obtain ⟨g',o',y,ea',hy,hr'⟩:=HB.out.at i (by rw [← HL.out]; exact hlt)
    subst ea ea'
    rw [Nat.mul_one] at hr hr'
    unfold IntR at hr hr'
    have i0:(0:Int)≤(i:Int):=by omega
    have i1:(i:Int)<(a.length:Int):=by omega
    have HX:=Lib.hid hx
    have HY:=Lib.hid hy
    clear hx hy
    by_cases hxy:x=y
    ·have hb1:(x != y)=false:=by simp [hxy]
     have HT2:Hid (a.take (i+1)=b.take (i+1)):=by show _=_; rw [take_snoc' HX.out,take_snoc' HY.out,HT.out,hxy]
     clear hxy
     go_wp2
     go_quiet (fail)
     go_wp2
     exact ⟨⟨i+1,_,by omega,by go_num,HT2.out,rfl⟩,by show a.length - _<a.length - _; simp [intOf]; omega⟩
    ·have hb1:(x != y)=true:=by rw [bne_iff_ne]; exact hxy
     have HRR:Hid (R=false):=by
      show _=_
      rw [HR.out]
      apply decide_eq_false
      intro e
      subst e
      have:=HX.out.symm.trans HY.out
      exact hxy (Option.some.inj this)
     clear hxy
     go_wp2
     go_quiet (fail)
     go_wp2
     go_ret
     rw [HRR.out]
     refine ⟨rfl,n0+nq,?_⟩
     first | rfl | rw [World.drewN_drewN]
   ·obtain rfl:i=a.length:=by omega
    have HRR:Hid (R=true):=by
     show _=_
     rw [HR.out]
     apply decide_eq_true
     have:=HT.out
     rwa [List.take_length,HL.out,List.take_length] at this
    go_wp2
    go_ret
    rw [HRR.out]
    exact ⟨rfl,_,rfl⟩
 ·have hl':¬ ((a.length:Int)=b.length):=by omega
  have e:decide (a=b)=false:=decide_eq_false (fun e => hl (by rw [e]))
  rw [e]
  clear ha hb hl e
  go_enter Tryz.func26,Tryz.ntmps26
  go_wp2
  go_ret
  exact ⟨rfl,0,rfl⟩
set_option maxHeartbeats 1600000 in
theorem sameBox_any (a1 a2 b1 b2:List Int) (v1 v2 u1 u2:Value) (w:World) (h1:Ints w v1 a1) (h2:Ints w v2 a2) (k1:Ints w u1 b1) (k2:Ints w u2 b2) :
  Calls Tryz.prog 27 #[.agg #[v1,v2],.agg #[u1,u2]] w (RetV' (.bool (decide (a1=b1) && decide (a2=b2))) w):=by
 have C1:=Lib.hid (fun w1 (hb:Below w.heap.size w w1) => sameInts_any a1 b1 v1 u1 w1 (h1.later IntR.lasts hb) (k1.later IntR.lasts hb))
 have C2:=Lib.hid (fun w1 (hb:Below w.heap.size w w1) => sameInts_any a2 b2 v2 u2 w1 (h2.later IntR.lasts hb) (k2.later IntR.lasts hb))
 obtain ⟨p1,c1,rfl,-⟩:=h1.shape
 obtain ⟨p2,c2,rfl,-⟩:=h2.shape
 obtain ⟨p3,c3,rfl,-⟩:=k1.shape
 obtain ⟨p4,c4,rfl,-⟩:=k2.shape
 have HB0:Hid (Below w.heap.size w ((w.alloc (.cells #[.slice p1 a1.length c1,.slice p2 a2.length c2] 44)).alloc (.cells #[.slice p3 b1.length c3,.slice p4 b2.length c4] 44))):=((Below.refl _ w).alloc (Nat.le_refl _) _).alloc (by simp) _
 clear h1 h2 k1 k2
 cases hd:decide (a1=b1) with
 | false =>
  rw [hd] at C1
  clear hd
  rw [Bool.false_and]
  go_enter Tryz.func27,Tryz.ntmps27
  go_wp2_with fail
  refine (C1.out _ HB0.out).mono ?_
  rintro e w1 ⟨rfl,n1,rfl⟩
  clear C1
  go_wp2
  go_ret
  exact ⟨rfl,HB0.out.trans ((below_drewN' _ _).mono HB0.out.size)⟩
 | true =>
  rw [hd] at C1
  rw [Bool.true_and]
  obtain ⟨B,hB⟩:∃ B,B=decide (a2=b2):=⟨_,rfl⟩
  rw [← hB] at C2 ⊢
  clear hd hB
  go_enter Tryz.func27,Tryz.ntmps27
  go_wp2_with fail
  refine (C1.out _ HB0.out).mono ?_
  rintro e w1 ⟨rfl,n1,rfl⟩
  clear C1
  go_wp2_with fail
  refine (C2.out _ (HB0.out.trans ((below_drewN' _ _).mono HB0.out.size))).mono ?_
  rintro e w1 ⟨rfl,n2,rfl⟩
  clear C2
  go_wp2
  go_ret
  exact ⟨rfl,HB0.out.trans ((below_drewN' _ _).mono HB0.out.size)⟩
set_option maxHeartbeats 1600000 in
theorem sameRows_any (a b:List (List Int)) (v u:Value) (w:World) (ha:RowsI w v a) (hb:RowsI w u b) :
  Calls Tryz.prog 20 #[v,u] w (RetV' (.bool (decide (a=b))) w):=by
 have HA:=Lib.hid ha
 have HB:=Lib.hid hb
 have hla:=ha.len
 obtain ⟨p,cap,rfl,c1,c2⟩:=ha.shape
 obtain ⟨p',cap',rfl,c1',c2'⟩:=hb.shape
 by_cases hl:a.length=b.length
 ·obtain ⟨R,hR⟩:∃ R,R=decide (a=b):=⟨_,rfl⟩
  rw [← hR]
  have HR:=Lib.hid hR
  have HL:=Lib.hid hl
  rw [← hl] at HB ⊢
  clear ha hb hl hR c1'
  go_enter Tryz.func20,Tryz.ntmps20
  go_wp2
  go_loopw [5] (fun iv wr => ∃ i:Nat,i≤a.length∧iv=.int .i64 (i:Nat)∧Hid (a.take i=b.take i)∧Below w.heap.size w wr) (fun iv _ => a.length - (intOf iv).toNat)
  case atStart => exact ⟨0,Nat.zero_le _,rfl,rfl,Below.refl _ _⟩
  case round =>
   obtain ⟨i,hi,rfl,HT,hb⟩:=hrel
   have HBR:=Lib.hid hb
   by_cases hlt:i<a.length
   ·obtain ⟨g,o,x,ea,hx,hr⟩:=Ls.at (HA.out.later RowR.lasts hb) i hlt
    obtain ⟨g',o',y,ea',hy,hr'⟩:=Ls.at (HB.out.later RowR.lasts hb) i (by rw [← HL.out]; exact hlt)
    subst ea ea'
    obtain ⟨vx,kx,ix⟩:=hr.ex
    obtain ⟨vy,ky,iy⟩:=hr'.ex
    rw [Nat.mul_one] at kx ky
    have CS:=Lib.hid (fun n => sameInts_any x y vx vy (wr.drewN n) (ix.later IntR.lasts (below_drewN' wr n)) (iy.later IntR.lasts (below_drewN' wr n)))
    obtain ⟨px,cx,rfl,-⟩:=ix.shape
    obtain ⟨py,cy,rfl,-⟩:=iy.shape
    have i0:(0:Int)≤(i:Int):=by omega
    have i1:(i:Int)<(a.length:Int):=by omega
    have HX:=Lib.hid hx
    have HY:=Lib.hid hy
    clear hx hy hr hr' ix iy hb
    by_cases hxy:x=y
    ·rw [decide_eq_true hxy] at CS
     have HT2:Hid (a.take (i+1)=b.take (i+1)):=by show _=_; rw [take_snoc' HX.out,take_snoc' HY.out,HT.out,hxy]
     clear hxy
     go_wp2
     go_quiet ((go_at_call 26; exact Calls.quiet_of (CS.out _)))
     go_wp2
     exact ⟨⟨i+1,by omega,by go_num,HT2.out,HBR.out.trans ((below_drewN' wr _).mono HBR.out.size)⟩,by show a.length - _<a.length - _; simp [intOf]; omega⟩
    ·rw [decide_eq_false hxy] at CS
     have HRR:Hid (R=false):=by
      show _=_
      rw [HR.out]
      apply decide_eq_false
      intro e
      subst e
      have:=HX.out.symm.trans HY.out
      exact hxy (Option.some.inj this)
     clear hxy
     go_wp2
     go_quiet ((go_at_call 26; exact Calls.quiet_of (CS.out _)))
     go_wp2
     go_ret
     rw [HRR.out]
     exact ⟨rfl,HBR.out.trans ((below_drewN' wr _).mono HBR.out.size)⟩
   ·obtain rfl:i=a.length:=by omega
    have HRR:Hid (R=true):=by
     show _=_
     rw [HR.out]
     apply decide_eq_true
     have:=HT.out
     rwa [List.take_length,HL.out,List.take_length] at this
    clear hb
    go_wp2
    go_ret
    rw [HRR.out]
    exact ⟨rfl,HBR.out⟩
 ·have hl':¬ ((a.length:Int)=b.length):=by omega
  have e:decide (a=b)=false:=decide_eq_false (fun e => hl (by rw [e]))
  rw [e]
  clear ha hb hl e
  go_enter Tryz.func20,Tryz.ntmps20
  go_wp2
  go_ret
  exact ⟨rfl,Below.refl _ _⟩
end Go.Proofs.YtdbnebhehiiakaaGreatDoor
