/- Lemmas and contracts, each under its own condition: space.dimension, space.attribute: contracts. space.attribute: the contract. Lists that a call makes piece by piece; arrays and cells that are made so. space.values: the contract. space.cellOf: the contract. space.Parse: the contract. -/
import Derived.Deep.DeepCutAuto
import Derived.IntWalk
import Derived.Deep.CutBlock
import Derived.Test.YtdbnebhehiiakaaGreatDoorE1
import Derived.Test.YtdbnebhehiiakaaGreatDoorS16
import Derived.Test.YtdbnebhehiiakaaGreatDoorS23
import Derived.Test.YtdbnebhehiiakaaGreatDoorS35
import Derived.Test.YtdbnebhehiiakaaGreatDoorS5
import Derived.Test.YtdbnebhehiiakaaGreatDoorS60
import Derived.Test.YtdbnebhehiiakaaGreatDoorS68
namespace Go.Proofs.YtdbnebhehiiakaaGreatDoor
open Go.RowKit
theorem blk_at (w:World) (us:List Value) (T:TypeId):∃ W1,W1=w.alloc (.cells us.toArray T)∧Below w.heap.size w W1∧w.heap.size<W1.heap.size∧∀ w',Below W1.heap.size W1 w'→(∀ j u,us[j]? = some u→w'.cell? ⟨w.heap.size,j,none⟩=some u)∧(∀ j,w'.frozen? ⟨w.heap.size,j,none⟩=false)∧TagB w' w.heap.size T:=by
 refine ⟨_,rfl,below_alloc _ _,by simp,fun w' hb => ?_⟩
 have ht:TagB (w.alloc (.cells us.toArray T)) w.heap.size T:=⟨_,_,World.alloc_heap_new w _⟩
 refine ⟨fun j u hj => ?_,fun j => ?_,ht.kept (hb.block _ (by simp))⟩
 ·rw [hb.cell (p:=⟨w.heap.size,j,none⟩) (by simp),World.cell?_alloc_at _ _ _ _ rfl]
  simpa using hj
 ·rw [hb.frozen (p:=⟨w.heap.size,j,none⟩) (by simp)]
  exact World.frozen?_alloc_at _ _ _ _ rfl
theorem dimO_parts (s:List UInt8):(dimO s).isSome=((Lib.cut s [32]).2.2 && (Lib.cut (Lib.cut s [32]).2.1 [58]).2.2 && (intO (Lib.cut (Lib.cut s [32]).2.1 [58]).1).isSome && (hiO (Lib.cut (Lib.cut s [32]).2.1 [58]).2.1).isSome) ∧
  ∀ d,dimO s=some d→d.name=(Lib.cut s [32]).1∧intO (Lib.cut (Lib.cut s [32]).2.1 [58]).1=some d.lo∧hiO (Lib.cut (Lib.cut s [32]).2.1 [58]).2.1=some d.hi:=by
 unfold dimO
 generalize Lib.cut s [32]=p
 generalize Lib.cut p.2.1 [58]=q
 cases h1:intO q.1 with
 | none => simp
 | some lo =>
  cases h2:hiO q.2.1 with
  | none => simp
  | some hi =>
   cases h3:p.2.2 <;> cases h4:q.2.2 <;> simp
def RetDi (s:List UInt8) (w:World) (e:Ending) (w':World):Prop:=∃ d:DimT,e=.returned (.tuple #[.agg #[strV d.name,.int .i64 d.lo,.int .i64 d.hi],.bool (dimO s).isSome])∧(∀ x,dimO s=some x→x=d)∧Below w.heap.size w w'
theorem dim_end {s P1 P2 Q1 Q2:List UInt8} {pb qb A B:Bool} {n h:Int} {w w':World} (e1:Lib.cut s [32]=(P1,P2,pb)) (e2:Lib.cut P2 [58]=(Q1,Q2,qb)) (hA:(intO Q1).isSome=A) (hn:∀ m,intO Q1=some m→n=m) (hB:(hiO Q2).isSome=B) (hh:∀ m,hiO Q2=some m→h=m) (hb:Below w.heap.size w w') (x:Value) (hx:x=.bool (pb && qb && A && B)) :
  RetDi s w (.returned (.tuple #[.agg #[strV P1,.int .i64 n,.int .i64 h],x])) w':=by
 obtain ⟨k1,k2⟩:=dimO_parts s
 rw [e1] at k1 k2
 simp only at k1 k2
 rw [e2] at k1 k2
 simp only at k1 k2
 rw [hA,hB] at k1
 refine ⟨⟨P1,n,h⟩,by rw [hx,k1],fun d hd => ?_,hb⟩
 obtain ⟨m1,m2,m3⟩:=k2 d hd
 obtain ⟨a,b,c⟩:=d
 simp only at m1 m2 m3
 rw [m1,hn b m2,hh c m3]
set_option maxHeartbeats 3200000 in
set_option maxRecDepth 100000 in
theorem dimension_any (s:List UInt8) (w:World) (hg:Gl w) (hl:s.length≤20000):Calls Tryz.prog 43 #[strV s] w (RetDi s w):=by
 have HG:=Lib.hid hg
 obtain ⟨⟨P1,P2,pb⟩,e1⟩:∃ p,Lib.cut s [32]=p:=⟨_,rfl⟩
 obtain ⟨⟨Q1,Q2,qb⟩,e2⟩:∃ q,Lib.cut P2 [58]=q:=⟨_,rfl⟩
 have hcl:∀ (a b:List UInt8),(Lib.cut a b).1.length≤a.length∧(Lib.cut a b).2.1.length≤a.length:=fun a b => by
  unfold Lib.cut
  split
  ·simp only [List.length_take,List.length_drop]; omega
  ·simp
 have l2:P2.length≤20000:=by have:=(hcl s [32]).2; rw [e1] at this; simp only at this; omega
 have l3:Q1.length≤20000:=by have:=(hcl P2 [58]).1; rw [e2] at this; simp only at this; omega
 have l4:Q2.length≤20000:=by have:=(hcl P2 [58]).2; rw [e2] at this; simp only at this; omega
 have C1:Hid (∀ w1,Below w.heap.size w w1→Calls Tryz.prog 88 #[strV s,strV [32]] w1 (RetV' (.tuple #[strV P1,strV P2,.bool pb]) w1)):=fun w1 hb => by
  have:=cutS_any s [32] w1 (hg.ml.later hb) hl
  rwa [e1] at this
 have C2:Hid (∀ w1,Below w.heap.size w w1→Calls Tryz.prog 88 #[strV P2,strV [58]] w1 (RetV' (.tuple #[strV Q1,strV Q2,.bool qb]) w1)):=fun w1 hb => by
  have:=cutS_any P2 [58] w1 (hg.ml.later hb) l2
  rwa [e2] at this
 have C3:=Lib.hid (fun w1 (hb:Below w.heap.size w w1) => integer_any Q1 w1 (hg.later hb) l3)
 have C4:=Lib.hid (fun w1 (hb:Below w.heap.size w w1) => integer_any Q2 w1 (hg.later hb) l4)
 have HE:=Lib.hid (And.intro e1 e2)
 obtain ⟨W0,hW0,hb0,hs0,hx0⟩:=blk_at w [.string ⟨#[]⟩,.int .i64 0,.int .i64 0] 74
 have HB0:=Lib.hid hb0
 have HX0:=Lib.hid hx0
 have HS0:=Lib.hid hs0
 clear hg hl hcl l2 l3 l4 e1 e2 hb0 hx0 hs0
 go_enter Tryz.func43,Tryz.ntmps43
 go_upto_region 1 with (fail)
 rw [← hW0]
 clear hW0
 go_wp2_with fail
 refine (C1.out _ HB0.out).mono ?_
 rintro e w1 ⟨rfl,hb⟩
 have HB1:=Lib.hid hb
 clear hb C1
 go_wp2_with fail
 refine (C2.out _ (below_keep HB0.out HB1.out)).mono ?_
 rintro e w2 ⟨rfl,hb⟩
 have HB2:=Lib.hid (below_keep HB1.out hb)
 obtain ⟨W3,hW3,hb3,hs3,hx3⟩:=blk_at w2 [strV P1,.int .i64 0,.int .i64 1073741825] 74
 have HB3:=Lib.hid (below_keep HB2.out hb3)
 have HX3:=Lib.hid hx3
 have hg2:w.heap.size<w2.heap.size:=Nat.lt_of_lt_of_le HS0.out HB2.out.size
 clear hb hb3 hs3 hx3 C2
 go_upto_region 4 with (fail)
 rw [← hW3]
 clear hW3
 go_wp2_with fail
 refine (C3.out _ (below_keep HB0.out HB3.out)).mono ?_
 rintro e w5 ⟨n1,rfl,hn1,hb⟩
 have HN1:=Lib.hid hn1
 have HB5:=Lib.hid (below_keep HB3.out hb)
 obtain ⟨z,zf,zt⟩:=HX3.out w5 hb
 have z0:=z 0 _ rfl
 have z1:=z 1 _ rfl
 have z2:=z 2 _ rfl
 have f1:=zf 1
 have f2:=zf 2
 have hw2:W0.heap.size≤w2.heap.size:=HB2.out.size
 have hne:w2.heap.size ≠ w.heap.size:=Nat.ne_of_gt hg2
 obtain ⟨W5,hW5⟩:∃ W5,W5=w5.setCell ⟨w2.heap.size,1,none⟩ (.int .i64 n1):=⟨_,rfl⟩
 have y0:W5.cell? ⟨w2.heap.size,0,none⟩=some (strV P1):=by rw [hW5,World.cell?_setCell_other _ _ _ _ (fun e => by injection e with _ e; cases e)]; exact z0
 have y1:W5.cell? ⟨w2.heap.size,1,none⟩=some (.int .i64 n1):=by rw [hW5]; exact World.cell?_setCell_same _ _ _ z1
 have y2:W5.cell? ⟨w2.heap.size,2,none⟩=some (.int .i64 1073741825):=by rw [hW5,World.cell?_setCell_other _ _ _ _ (fun e => by injection e with _ e; cases e)]; exact z2
 have HF5:Hid (∀ j,W5.frozen? ⟨w2.heap.size,j,none⟩=false):=fun j => by rw [hW5,World.frozen?_setCell]; exact zf j
 have HB5':Hid (Below W0.heap.size W0 W5):=by rw [hW5]; exact HB5.out.setCell (p:=⟨w2.heap.size,1,none⟩) hw2 _
 have HW5:=Lib.hid (below_keep HB0.out HB5'.out)
 obtain ⟨A,hA⟩:∃ A,(intO Q1).isSome=A:=⟨_,rfl⟩
 rw [hA]
 have HA:=Lib.hid hA
 clear hn1 hb z zf zt HX3 C3 hA
 go_upto_region 6 with (fail)
 rw [← hW5]
 clear hW5 z0 z1 z2 f1 f2
 by_cases hst:Q2=[42]
 ·subst hst
  obtain ⟨x,xf,xt⟩:=HX0.out W5 HB5'.out
  have r0:=x 0 _ rfl
  have r1:=x 1 _ rfl
  have r2:=x 2 _ rfl
  have k0:=xf 0
  have k1:=xf 1
  have k2:=xf 2
  have HH:Hid ((hiO [42]).isSome=true∧∀ m,hiO [42]=some m→1073741825=m):=by
   have:hiO [42]=some 1073741825:=rfl
   show _∧_
   rw [this]
   exact ⟨rfl,fun m hm => by cases hm; rfl⟩
  have HBE:Hid (∀ a b c,Below w.heap.size w (((W5.setCell ⟨w.heap.size,0,none⟩ a).setCell ⟨w.heap.size,1,none⟩ b).setCell ⟨w.heap.size,2,none⟩ c)):=fun a b c => ((HW5.out.setCell (p:=⟨w.heap.size,0,none⟩) (Nat.le_refl _) _).setCell (p:=⟨w.heap.size,1,none⟩) (Nat.le_refl _) _).setCell (p:=⟨w.heap.size,2,none⟩) (Nat.le_refl _) _
  clear x xf xt HX0 HF5 C4
  cases pb <;> cases qb <;> cases A
  all_goals
   go_wp2
   refine bodyPost_ret (by simp [results,Tryz.results43,go_sem,r0,r1,r2]; try rfl) rfl ?_
   exact dim_end HE.out.1 HE.out.2 HA.out HN1.out HH.out.1 HH.out.2 (HBE.out _ _ _) _ rfl
 ·have hst':(Q2 == [42])=false:=by rw [beq_eq_false_iff_ne]; exact hst
  have HST:=Lib.hid hst
  clear hst
  go_wp2_with fail
  refine (C4.out _ HW5.out).mono ?_
  rintro e w6 ⟨n2,rfl,hn2,hb⟩
  have HN2:=Lib.hid hn2
  have HLT:Hid (w2.heap.size<W5.heap.size):=World.block_lt_of_cell? _ _ y0
  have y0:=cell_later y0 hb
  have y1:=cell_later y1 hb
  have y2:=cell_later y2 hb
  have hf6:∀ j,w6.frozen? ⟨w2.heap.size,j,none⟩=false:=fun j => (hb.frozen (p:=⟨w2.heap.size,j,none⟩) HLT.out).trans (HF5.out j)
  have f2:=hf6 2
  obtain ⟨C,hC⟩:∃ C,(intO Q2).isSome=C:=⟨_,rfl⟩
  rw [hC]
  have HC:=Lib.hid hC
  obtain ⟨W6,hW6⟩:∃ W6,W6=w6.setCell ⟨w2.heap.size,2,none⟩ (.int .i64 n2):=⟨_,rfl⟩
  have q0:W6.cell? ⟨w2.heap.size,0,none⟩=some (strV P1):=by rw [hW6,World.cell?_setCell_other _ _ _ _ (fun e => by injection e with _ e; cases e)]; exact y0
  have q1:W6.cell? ⟨w2.heap.size,1,none⟩=some (.int .i64 n1):=by rw [hW6,World.cell?_setCell_other _ _ _ _ (fun e => by injection e with _ e; cases e)]; exact y1
  have q2:W6.cell? ⟨w2.heap.size,2,none⟩=some (.int .i64 n2):=by rw [hW6]; exact World.cell?_setCell_same _ _ _ y2
  have HB6:Hid (Below W0.heap.size W0 W6):=by rw [hW6]; exact (below_keep HB5'.out hb).setCell (p:=⟨w2.heap.size,2,none⟩) hw2 _
  have HW6:=Lib.hid (below_keep HB0.out HB6.out)
  clear hn2 hb hf6 hC C4
  go_upto_region 9 with (fail)
  rw [← hW6]
  clear hW6 y0 y1 y2 f2
  obtain ⟨x,xf,xt⟩:=HX0.out W6 HB6.out
  have r0:=x 0 _ rfl
  have r1:=x 1 _ rfl
  have r2:=x 2 _ rfl
  have k0:=xf 0
  have k1:=xf 1
  have k2:=xf 2
  have HBE:Hid (∀ a b c,Below w.heap.size w (((W6.setCell ⟨w.heap.size,0,none⟩ a).setCell ⟨w.heap.size,1,none⟩ b).setCell ⟨w.heap.size,2,none⟩ c)):=fun a b c => ((HW6.out.setCell (p:=⟨w.heap.size,0,none⟩) (Nat.le_refl _) _).setCell (p:=⟨w.heap.size,1,none⟩) (Nat.le_refl _) _).setCell (p:=⟨w.heap.size,2,none⟩) (Nat.le_refl _) _
  clear x xf xt HX0 HF5
  have HH:Hid ((hiO Q2).isSome=(C && decide (n2<1073741825))∧∀ m,hiO Q2=some m→n2=m):=by
   have h1:=HC.out
   have h2:=HN2.out
   unfold hiO
   rw [if_neg HST.out]
   cases h:intO Q2 with
   | none =>
    rw [h] at h1
    rw [← h1]
    exact ⟨rfl,fun m hm => by cases hm⟩
   | some v =>
    rw [h] at h1
    have h3:=h2 v h
    rw [← h1,h3]
    simp only
    by_cases hv:v<1073741825
    ·rw [if_pos hv]; exact ⟨by simp [hv],fun m hm => by cases hm; rfl⟩
    ·rw [if_neg hv]; exact ⟨by simp [hv],fun m hm => by cases hm⟩
  clear HC HN2 HST
  cases C with
  | false =>
   have HH1:Hid ((hiO Q2).isSome=false):=by show _=_; rw [HH.out.1]; rfl
   cases pb <;> cases qb <;> cases A
   all_goals
    go_wp2
    refine bodyPost_ret (by simp [results,Tryz.results43,go_sem,r0,r1,r2]; try rfl) rfl ?_
    exact dim_end HE.out.1 HE.out.2 HA.out HN1.out HH1.out HH.out.2 (HBE.out _ _ _) _ rfl
  | true =>
   by_cases hlt:n2<1073741825
   ·have t1:decide (n2<1073741825)=true:=decide_eq_true hlt
    have HH1:Hid ((hiO Q2).isSome=true):=by show _=_; rw [HH.out.1,t1]; rfl
    clear hlt
    cases pb <;> cases qb <;> cases A
    all_goals
     go_wp2
     refine bodyPost_ret (by simp [results,Tryz.results43,go_sem,r0,r1,r2]; try rfl) rfl ?_
     exact dim_end HE.out.1 HE.out.2 HA.out HN1.out HH1.out HH.out.2 (HBE.out _ _ _) _ rfl
   ·have t1:decide (n2<1073741825)=false:=decide_eq_false hlt
    have HH1:Hid ((hiO Q2).isSome=false):=by show _=_; rw [HH.out.1,t1]; rfl
    clear hlt
    cases pb <;> cases qb <;> cases A
    all_goals
     go_wp2
     refine bodyPost_ret (by simp [results,Tryz.results43,go_sem,r0,r1,r2]; try rfl) rfl ?_
     exact dim_end HE.out.1 HE.out.2 HA.out HN1.out HH1.out HH.out.2 (HBE.out _ _ _) _ rfl
def RetAq (s:List UInt8) (w:World) (e:Ending) (w':World):Prop:=∃ a:AttrT,e=.returned (.tuple #[.agg #[strV a.name,.int .i64 a.ty],.bool (attrO s).isSome])∧(∀ x,attrO s=some x→x=a)∧Below w.heap.size w w'
theorem word_type (k:Int):typeW k=wordT k:=rfl
theorem tyO_at {s:List UInt8} {k:Int} (h1:1≤k) (h2:k≤4) (h:wordT k=s) (hn:∀ j,1≤j→j<k→wordT j ≠ s):tyO s=some k:=by
 unfold tyO
 obtain rfl | rfl | rfl | rfl:k=1 ∨ k=2 ∨ k=3 ∨ k=4:=by omega
 ·rw [if_pos h]
 ·rw [if_neg (hn 1 (by decide) (by decide)),if_pos h]
 ·rw [if_neg (hn 1 (by decide) (by decide)),if_neg (hn 2 (by decide) (by decide)),if_pos h]
 ·rw [if_neg (hn 1 (by decide) (by decide)),if_neg (hn 2 (by decide) (by decide)),if_neg (hn 3 (by decide) (by decide)),if_pos h]
theorem tyO_no {s:List UInt8} (hn:∀ j,1≤j→j<5→wordT j ≠ s):tyO s=none:=by
 unfold tyO
 rw [if_neg (hn 1 (by decide) (by decide)),if_neg (hn 2 (by decide) (by decide)),if_neg (hn 3 (by decide) (by decide)),if_neg (hn 4 (by decide) (by decide))]
set_option maxHeartbeats 3200000 in
set_option maxRecDepth 100000 in
theorem attribute_any (s:List UInt8) (w:World) (hg:Gl w) (hl:s.length≤20000):Calls Tryz.prog 44 #[strV s] w (RetAq s w):=by
 obtain ⟨⟨P1,P2,pb⟩,e1⟩:∃ p,Lib.cut s [32]=p:=⟨_,rfl⟩
 have C1:Hid (∀ w1,Below w.heap.size w w1→Calls Tryz.prog 88 #[strV s,strV [32]] w1 (RetV' (.tuple #[strV P1,strV P2,.bool pb]) w1)):=fun w1 hb => by
  have:=cutS_any s [32] w1 (hg.ml.later hb) hl
  rwa [e1] at this
 have CT:=Lib.hid (fun (k:Int) (w1:World) (h1:0≤k) (h2:k≤4) => typeWord_any k w1 h1 h2)
 have HAO:Hid (attrO s=match tyO P2 with | some t => some ⟨P1,t⟩ | none => none):=by
  show _=_
  unfold attrO
  rw [e1]
  rfl
 obtain ⟨W0,hW0,hb0,hs0,hx0⟩:=blk_at w [.string ⟨#[]⟩,.int .i64 0] 81
 have HB0:=Lib.hid hb0
 have HX0:=Lib.hid hx0
 clear hg hl e1 hb0 hx0 hs0
 go_enter Tryz.func44,Tryz.ntmps44
 go_upto_region 1 with (fail)
 rw [← hW0]
 clear hW0
 go_wp2_with fail
 refine (C1.out _ HB0.out).mono ?_
 rintro e w1 ⟨rfl,hb⟩
 have HB1:=Lib.hid hb
 clear hb C1
 go_wp2
 go_loopw [7] (fun iv wr => ∃ k:Int,iv=.int .i64 k∧Hid (1≤k∧k≤5)∧Hid (∀ j,1≤j→j<k→wordT j ≠ P2)∧Below W0.heap.size W0 wr) (fun iv _ => 5 - (intOf iv).toNat)
 case atStart => exact ⟨1,rfl,⟨by decide,by decide⟩,fun j h1 h2 => by omega,HB1.out⟩
 case round =>
  obtain ⟨k,rfl,HK,HN,hb⟩:=hrel
  have HB:=Lib.hid hb
  obtain ⟨x,xf,xt⟩:=HX0.out wr hb
  have r0:=x 0 _ rfl
  have r1:=x 1 _ rfl
  have k0:=xf 0
  have k1:=xf 1
  have HBW:=Lib.hid (below_keep HB0.out hb)
  have HBE:Hid (∀ a b,Below w.heap.size w ((wr.setCell ⟨w.heap.size,0,none⟩ a).setCell ⟨w.heap.size,1,none⟩ b)):=fun a b => (HBW.out.setCell (p:=⟨w.heap.size,0,none⟩) (Nat.le_refl _) _).setCell (p:=⟨w.heap.size,1,none⟩) (Nat.le_refl _) _
  clear x xf xt hb
  by_cases hlt:k≤4
  ·have CTk:=Lib.hid (CT.out k wr (by have:=HK.out.1; omega) hlt)
   rw [word_type] at CTk
   obtain ⟨S,hS⟩:∃ S,S=wordT k:=⟨_,rfl⟩
   rw [← hS] at CTk
   by_cases he:S=P2
   ·have HT:Hid (tyO P2=some k):=tyO_at HK.out.1 hlt (by rw [← hS,he]) HN.out
    subst he
    clear hS HN
    go_wp2_with fail
    refine CTk.out.mono ?_
    rintro e w9 ⟨rfl,hw9⟩
    subst w9
    go_wp2
    refine bodyPost_ret (by simp [results,Tryz.results44,go_sem,r0,r1]; try rfl) rfl ?_
    refine ⟨⟨P1,k⟩,?_,fun y hy => ?_,HBE.out _ _⟩
    ·rw [HAO.out,HT.out]; rfl
    ·rw [HAO.out,HT.out] at hy; cases hy; rfl
   ·have HNE:Hid (∀ j,1≤j→j<k+1→wordT j ≠ P2):=fun j h1 h2 => by
     rcases Int.lt_or_eq_of_le (show j≤k by omega) with h | h
     ·exact HN.out j h1 h
     ·rw [h,← hS]; exact he
    have he':(S == P2)=false:=by rw [beq_eq_false_iff_ne]; exact he
    have s1:IntKind.i64.wrap (k+1)=k+1:=IntWalk.i64_in _ (by have:=HK.out.1; omega)
    have HK2:Hid ((1≤k+1∧k+1≤5)∧5 - (k+1).toNat<5 - k.toNat):=by show _∧_; have:=HK.out.1; omega
    clear hS he HN
    go_wp2_with fail
    refine CTk.out.mono ?_
    rintro e w9 ⟨rfl,hw9⟩
    subst w9
    go_wp2
    exact ⟨⟨k+1,rfl,HK2.out.1,HNE.out,HB.out⟩,HK2.out.2⟩
  ·have HT:Hid (tyO P2=none):=tyO_no fun j h1 h2 => HN.out j h1 (by omega)
   clear HN CT
   go_wp2
   refine bodyPost_ret (by simp [results,Tryz.results44,go_sem,r0,r1]; try rfl) rfl ?_
   refine ⟨⟨[],0⟩,?_,fun y hy => ?_,HBE.out _ _⟩
   ·rw [HAO.out,HT.out]; rfl
   ·rw [HAO.out,HT.out] at hy; cases hy
structure OwR {α:Type} (k:Nat) (f:α→List Value) (T:TypeId) (n:Nat) (w:World) (v:Value) (l:List α):Prop where
 row:w.ownsRow n T k v l.length (l.flatMap f)
section
variable {α:Type} {k:Nat} {f:α→List Value} {Rd:World→Nat→Nat→α→Prop} {T:TypeId} {n m:Nat} {w w':World} {v v':Value} {l:List α}
theorem OwR.nil:OwR k f T n w (.slice none 0 0) ([]:List α):=⟨World.ownsRow_nil _ _ _ _⟩
theorem OwR.tag (h:OwR k f T n w v l):TagV w v T:=ownsRow_tag h.row
theorem OwR.lt (h:OwR k f T n w v l):∀ b,v.ownBlock=some b→n≤b:=fun b e => (h.row.lt b e).1
theorem OwR.new (h:OwR k f T n w v l):NewV n w v T:=NewV.row h.row
theorem OwR.kept (h:OwR k f T n w v l) {row:Option Nat} (hg:w.grownBy w' row) (hr:∀ r,row=some r→v.ownBlock ≠ some r):OwR k f T n w' v l:=by
 refine ⟨h.row.kept hg ?_⟩
 cases hv:v.ownBlock with
 | none => exact .inl rfl
 | some b => exact .inr fun e => hr b e.symm hv
theorem OwR.later (h:OwR k f T n w v l) (hb:Below w.heap.size w w'):OwR k f T n w' v l:=h.kept (row:=none) (grown_of_below hb none) (fun r e => by cases e)
theorem OwR.snoc {x:α} (h:w'.ownsRow n T k v' (l.length+1) (l.flatMap f ++ f x)):OwR k f T n w' v' (l ++ [x]):=⟨by simpa using h⟩
theorem OwR.base (h:OwR k f T n w v l) (hm:m≤n):OwR k f T m w v l:=by
 refine ⟨h.row.1,?_⟩
 rcases h.row.2 with h | ⟨g,cap,cur,e,h1,h2⟩
 ·exact .inl h
 ·exact .inr ⟨g,cap,cur,e,Nat.le_trans hm h1,h2⟩
theorem OwR.list (hc:Cellw k f Rd) (h:OwR k f T n w v l):Ls k Rd w v l:=by
 rcases id h.row.2 with ⟨rfl,h0⟩ | ⟨g,cap,cur,rfl,-⟩
 ·have:l=[]:=List.length_eq_zero_iff.1 h0
  subst this
  exact Ls.nil _ _ _ (by omega)
 ·exact Ls.owned hc h.row rfl
end
theorem lit_at (w:World) (us:List Value) (T:TypeId):∀ j u,us[j]? = some u→(w.alloc (.cells us.toArray T)).cell? ((⟨w.heap.size,0,none⟩:Addr).add j)=some u:=fun j u h => by
 have e:((⟨w.heap.size,0,none⟩:Addr).add j)=⟨w.heap.size,j,none⟩:=by unfold Addr.add; split <;> simp_all
 rw [e,World.cell?_alloc_at _ _ _ _ rfl]
 simpa using h
abbrev OwD:=OwR 3 cellsDim 74
abbrev OwA:=OwR 2 cellsAttr 81
abbrev OwI:=OwR 1 cellsInt 3
abbrev OwV:=OwR 4 vcells 59
def StrR (w:World) (g o:Nat) (x:List UInt8):Prop:=w.cell? ⟨g,o,none⟩=some (strV x)
abbrev Strs:=Ls 1 StrR
theorem StrR.lasts:Lasts StrR:=fun _ _ _ _ _ h hb => cell_later h hb
theorem StrR.local:Local StrR:=fun _ _ _ _ _ h hk => (World.cell?_of_block hk).trans h
structure StrT (w:World) (v:Value) (l:List (List UInt8)):Prop where
 list:Strs w v l
 tag:TagV w v 9
theorem StrT.kept {w w':World} {v:Value} {l:List (List UInt8)} {row:Option Nat} {T:TypeId} (h:StrT w v l) (hg:w.grownBy w' row) (hr:∀ r,row=some r→TagB w r T) (hT:T ≠ 9):StrT w' v l :=
 have hk:∀ b,v.ownBlock=some b→w'.heap[b]? = w.heap[b]?:=fun b e => hg.block b (h.tag b e).lt fun e2 => (hr b e2.symm).ne (h.tag b e) hT rfl
 ⟨h.list.kept StrR.local hk,h.tag.kept hk⟩
theorem StrT.later {w w':World} {v:Value} {l:List (List UInt8)} (h:StrT w v l) (hb:Below w.heap.size w w'):StrT w' v l:=⟨h.list.later StrR.lasts hb,h.tag.later hb⟩
theorem StrT.set {w:World} {v:Value} {l:List (List UInt8)} {g:Nat} {T:TypeId} (h:StrT w v l) (hg:TagB w g T) (hT:T ≠ 9) (o:Nat) (u:Value):StrT (w.setCell ⟨g,o,none⟩ u) v l:=h.kept (row:=some g) (grown_setG w g o u) (fun r e => by cases e; exact hg) hT
structure MakC (n g:Nat) (w:World) (v1 v2:Value) (c:CellT):Prop where
 c0:w.cell? ⟨g,0,none⟩=some v1
 c1:w.cell? ⟨g,1,none⟩=some v2
 f0:w.frozen? ⟨g,0,none⟩=false
 f1:w.frozen? ⟨g,1,none⟩=false
 co:OwI n w v1 c.co
 va:OwV n w v2 c.vals
 tag:TagB w g 62
 ge:n≤g
section
variable {n g:Nat} {w w':World} {v1 v2 u:Value} {c:CellT} {row:Option Nat}
theorem MakC.later (h:MakC n g w v1 v2 c) (hb:Below w.heap.size w w'):MakC n g w' v1 v2 c :=
 have hf:∀ o,w.frozen? ⟨g,o,none⟩=false→w'.frozen? ⟨g,o,none⟩=false:=fun o k => (hb.frozen (p:=⟨g,o,none⟩) h.tag.lt).trans k
 ⟨cell_later h.c0 hb,cell_later h.c1 hb,hf 0 h.f0,hf 1 h.f1,h.co.later hb,h.va.later hb,h.tag.kept (hb.block _ h.tag.lt),h.ge⟩
theorem MakC.block (h:MakC n g w v1 v2 c) (hg:w.grownBy w' row) (hr:∀ r,row=some r→¬ TagB w r 62):w'.heap[g]? = w.heap[g]?:=hg.block g h.tag.lt fun e => hr g e.symm h.tag
theorem MakC.start (w:World):MakC w.heap.size w.heap.size (w.alloc (.cells #[.slice none 0 0,.slice none 0 0] 62)) (.slice none 0 0) (.slice none 0 0) ⟨[],[]⟩:=by
 refine ⟨?_,?_,World.frozen?_alloc_at _ _ _ _ rfl,World.frozen?_alloc_at _ _ _ _ rfl,OwR.nil,OwR.nil,⟨_,_,World.alloc_heap_new w _⟩,Nat.le_refl _⟩ <;> (rw [World.cell?_alloc_at _ _ _ _ rfl]; rfl)
theorem MakC.base {m:Nat} (h:MakC n g w v1 v2 c) (hm:m≤n):MakC m g w v1 v2 c:=⟨h.c0,h.c1,h.f0,h.f1,h.co.base hm,h.va.base hm,h.tag,Nat.le_trans hm h.ge⟩
structure MidC (n g:Nat) (w:World) (v1 v2 u:Value) (c:CellT) (x:List Int):Prop where
 c0:w.cell? ⟨g,0,none⟩=some v1
 f0:w.frozen? ⟨g,0,none⟩=false
 tg:TagB w g 62
 out:MakC n g (w.setCell ⟨g,0,none⟩ u) u v2 ⟨x,c.vals⟩
theorem MakC.setI {x:List Int} (h:MakC n g w v1 v2 c) (hg:w.grownBy w' v1.ownBlock) (ho:OwI n w' u x):MidC n g w' v1 v2 u c x:=by
 have hbl:=h.block hg (fun r e k => (h.co.tag r e).ne k (by decide) rfl)
 have c0:=(World.cell?_of_block (a:=⟨g,0,none⟩) hbl).trans h.c0
 have c1:=(World.cell?_of_block (a:=⟨g,1,none⟩) hbl).trans h.c1
 have f0:=(World.frozen?_of_block (a:=⟨g,0,none⟩) hbl).trans h.f0
 have f1:=(World.frozen?_of_block (a:=⟨g,1,none⟩) hbl).trans h.f1
 have tg:=h.tag.kept hbl
 have va:=h.va.kept hg (fun r e e2 => (h.co.tag r e).ne (h.va.tag r e2) (by decide) rfl)
 refine ⟨c0,f0,tg,World.cell?_setCell_same _ _ _ c0,?_,by rw [World.frozen?_setCell]; exact f0,by rw [World.frozen?_setCell]; exact f1,ho.kept (grown_setG w' g 0 u) (fun r e e2 => ?_),va.kept (grown_setG w' g 0 u) (fun r e e2 => ?_),tg.setCell _ _,h.ge⟩
 ·rw [World.cell?_setCell_other _ _ _ _ (fun e => by injection e with _ e; cases e)]; exact c1
 ·cases e; exact (ho.tag g e2).ne tg (by decide) rfl
 ·cases e; exact (va.tag g e2).ne tg (by decide) rfl
structure MidV (n g:Nat) (w:World) (v1 v2 u:Value) (c:CellT) (x:List Va):Prop where
 c1:w.cell? ⟨g,1,none⟩=some v2
 f1:w.frozen? ⟨g,1,none⟩=false
 tg:TagB w g 62
 out:MakC n g (w.setCell ⟨g,1,none⟩ u) v1 u ⟨c.co,x⟩
theorem MakC.setV {x:List Va} (h:MakC n g w v1 v2 c) (hg:w.grownBy w' row) (hr:∀ r,row=some r→TagB w r 59) (ho:OwV n w' u x):MidV n g w' v1 v2 u c x:=by
 have hbl:=h.block hg (fun r e k => (hr r e).ne k (by decide) rfl)
 have c0:=(World.cell?_of_block (a:=⟨g,0,none⟩) hbl).trans h.c0
 have c1:=(World.cell?_of_block (a:=⟨g,1,none⟩) hbl).trans h.c1
 have f0:=(World.frozen?_of_block (a:=⟨g,0,none⟩) hbl).trans h.f0
 have f1:=(World.frozen?_of_block (a:=⟨g,1,none⟩) hbl).trans h.f1
 have tg:=h.tag.kept hbl
 have co:=h.co.kept hg (fun r e e2 => (hr r e).ne (h.co.tag r e2) (by decide) rfl)
 refine ⟨c1,f1,tg,?_,World.cell?_setCell_same _ _ _ c1,by rw [World.frozen?_setCell]; exact f0,by rw [World.frozen?_setCell]; exact f1,co.kept (grown_setG w' g 1 u) (fun r e e2 => ?_),ho.kept (grown_setG w' g 1 u) (fun r e e2 => ?_),tg.setCell _ _,h.ge⟩
 ·rw [World.cell?_setCell_other _ _ _ _ (fun e => by injection e with _ e; cases e)]; exact c0
 ·cases e; exact (co.tag g e2).ne tg (by decide) rfl
 ·cases e; exact (ho.tag g e2).ne tg (by decide) rfl
theorem MakC.ceO (h:MakC n g w v1 v2 c):CeO n w v1 v2 c:=⟨h.co.list cellw_Int,h.co.new,h.va.list cellw_val,h.va.new⟩
theorem MakC.done {r:Nat} {s t:Value} (h:MakC n g w v1 v2 c) (hr:TagB w r 62):CeO n ((w.setCell ⟨r,0,none⟩ s).setCell ⟨r,1,none⟩ t) v1 v2 c:=by
 have hg:w.grownBy ((w.setCell ⟨r,0,none⟩ s).setCell ⟨r,1,none⟩ t) (some r):=(grown_setG w r 0 s).trans (grown_setG _ r 1 t)
 exact h.ceO.grown hg fun q e => by cases e; exact not_tag hr (by decide) (by decide)
end
structure MakA (n g:Nat) (w:World) (v1 v2 v3:Value) (x:ArrT):Prop where
 c0:w.cell? ⟨g,0,none⟩=some v1
 c1:w.cell? ⟨g,1,none⟩=some v2
 c2:w.cell? ⟨g,2,none⟩=some v3
 f0:w.frozen? ⟨g,0,none⟩=false
 f1:w.frozen? ⟨g,1,none⟩=false
 f2:w.frozen? ⟨g,2,none⟩=false
 dm:OwD n w v1 x.dims
 at':OwA n w v2 x.attrs
 ce:CellsO n w v3 x.cells
 tag:TagB w g 26
 ge:n≤g
section
variable {n g:Nat} {w w':World} {v1 v2 v3 u:Value} {x:ArrT} {row:Option Nat}
theorem MakA.arr (h:MakA n g w v1 v2 v3 x):ArrR w v1 v2 v3 x:=⟨h.dm.list cellw_Dim,h.at'.list cellw_Attr,h.ce.cells⟩
theorem MakA.later (h:MakA n g w v1 v2 v3 x) (hb:Below w.heap.size w w'):MakA n g w' v1 v2 v3 x :=
 have hf:∀ o,w.frozen? ⟨g,o,none⟩=false→w'.frozen? ⟨g,o,none⟩=false:=fun o k => (hb.frozen (p:=⟨g,o,none⟩) h.tag.lt).trans k
 ⟨cell_later h.c0 hb,cell_later h.c1 hb,cell_later h.c2 hb,hf 0 h.f0,hf 1 h.f1,hf 2 h.f2,h.dm.later hb,h.at'.later hb,h.ce.later hb,h.tag.kept (hb.block _ h.tag.lt),h.ge⟩
theorem MakA.base {m:Nat} (h:MakA n g w v1 v2 v3 x) (hm:m≤n):MakA m g w v1 v2 v3 x:=⟨h.c0,h.c1,h.c2,h.f0,h.f1,h.f2,h.dm.base hm,h.at'.base hm,h.ce.base hm,h.tag,Nat.le_trans hm h.ge⟩
theorem MakA.start (w:World):MakA w.heap.size w.heap.size (w.alloc (.cells #[.slice none 0 0,.slice none 0 0,.slice none 0 0] 26)) (.slice none 0 0) (.slice none 0 0) (.slice none 0 0) ⟨[],[],[]⟩:=by
 refine ⟨?_,?_,?_,World.frozen?_alloc_at _ _ _ _ rfl,World.frozen?_alloc_at _ _ _ _ rfl,World.frozen?_alloc_at _ _ _ _ rfl,OwR.nil,OwR.nil,CellsO.nil _ _,⟨_,_,World.alloc_heap_new w _⟩,Nat.le_refl _⟩ <;> (rw [World.cell?_alloc_at _ _ _ _ rfl]; rfl)
theorem MakA.block (h:MakA n g w v1 v2 v3 x) (hg:w.grownBy w' row) (hr:∀ r,row=some r→¬ TagB w r 26):w'.heap[g]? = w.heap[g]?:=hg.block g h.tag.lt fun e => hr g e.symm h.tag
structure MidA (i:Nat) (n g:Nat) (w:World) (v:Value) (u:Value) (P:World→Prop):Prop where
 c:w.cell? ⟨g,i,none⟩=some v
 f:w.frozen? ⟨g,i,none⟩=false
 tg:TagB w g 26
 out:P (w.setCell ⟨g,i,none⟩ u)
theorem MakA.setD {y:List DimT} (h:MakA n g w v1 v2 v3 x) (hg:w.grownBy w' v1.ownBlock) (ho:OwD n w' u y):MidA 0 n g w' v1 u (fun z => MakA n g z u v2 v3 ⟨y,x.attrs,x.cells⟩):=by
 have hbl:=h.block hg (fun r e k => (h.dm.tag r e).ne k (by decide) rfl)
 have c0:=(World.cell?_of_block (a:=⟨g,0,none⟩) hbl).trans h.c0
 have c1:=(World.cell?_of_block (a:=⟨g,1,none⟩) hbl).trans h.c1
 have c2:=(World.cell?_of_block (a:=⟨g,2,none⟩) hbl).trans h.c2
 have f0:=(World.frozen?_of_block (a:=⟨g,0,none⟩) hbl).trans h.f0
 have f1:=(World.frozen?_of_block (a:=⟨g,1,none⟩) hbl).trans h.f1
 have f2:=(World.frozen?_of_block (a:=⟨g,2,none⟩) hbl).trans h.f2
 have tg:=h.tag.kept hbl
 have at':=h.at'.kept hg (fun r e e2 => (h.dm.tag r e).ne (h.at'.tag r e2) (by decide) rfl)
 have ce:=h.ce.kept hg (fun r e e2 => (h.dm.tag r e).ne (h.ce.tag r e2) (by decide) rfl) (fun r e => not_tag (h.dm.tag r e) (by decide) (by decide))
 have hs:=grown_setG w' g 0 u
 refine ⟨c0,f0,tg,World.cell?_setCell_same _ _ _ c0,?_,?_,by rw [World.frozen?_setCell]; exact f0,by rw [World.frozen?_setCell]; exact f1,by rw [World.frozen?_setCell]; exact f2,ho.kept hs (fun r e e2 => ?_),at'.kept hs (fun r e e2 => ?_),ce.kept hs (fun r e e2 => ?_) (fun r e => ?_),tg.setCell _ _,h.ge⟩
 ·rw [World.cell?_setCell_other _ _ _ _ (fun e => by injection e with _ e; cases e)]; exact c1
 ·rw [World.cell?_setCell_other _ _ _ _ (fun e => by injection e with _ e; cases e)]; exact c2
 ·cases e; exact (ho.tag g e2).ne tg (by decide) rfl
 ·cases e; exact (at'.tag g e2).ne tg (by decide) rfl
 ·cases e; exact (ce.tag g e2).ne tg (by decide) rfl
 ·cases e; exact not_tag tg (by decide) (by decide)
theorem MakA.setA {y:List AttrT} (h:MakA n g w v1 v2 v3 x) (hg:w.grownBy w' v2.ownBlock) (ho:OwA n w' u y):MidA 1 n g w' v2 u (fun z => MakA n g z v1 u v3 ⟨x.dims,y,x.cells⟩):=by
 have hbl:=h.block hg (fun r e k => (h.at'.tag r e).ne k (by decide) rfl)
 have c0:=(World.cell?_of_block (a:=⟨g,0,none⟩) hbl).trans h.c0
 have c1:=(World.cell?_of_block (a:=⟨g,1,none⟩) hbl).trans h.c1
 have c2:=(World.cell?_of_block (a:=⟨g,2,none⟩) hbl).trans h.c2
 have f0:=(World.frozen?_of_block (a:=⟨g,0,none⟩) hbl).trans h.f0
 have f1:=(World.frozen?_of_block (a:=⟨g,1,none⟩) hbl).trans h.f1
 have f2:=(World.frozen?_of_block (a:=⟨g,2,none⟩) hbl).trans h.f2
 have tg:=h.tag.kept hbl
 have dm:=h.dm.kept hg (fun r e e2 => (h.at'.tag r e).ne (h.dm.tag r e2) (by decide) rfl)
 have ce:=h.ce.kept hg (fun r e e2 => (h.at'.tag r e).ne (h.ce.tag r e2) (by decide) rfl) (fun r e => not_tag (h.at'.tag r e) (by decide) (by decide))
 have hs:=grown_setG w' g 1 u
 refine ⟨c1,f1,tg,?_,World.cell?_setCell_same _ _ _ c1,?_,by rw [World.frozen?_setCell]; exact f0,by rw [World.frozen?_setCell]; exact f1,by rw [World.frozen?_setCell]; exact f2,dm.kept hs (fun r e e2 => ?_),ho.kept hs (fun r e e2 => ?_),ce.kept hs (fun r e e2 => ?_) (fun r e => ?_),tg.setCell _ _,h.ge⟩
 ·rw [World.cell?_setCell_other _ _ _ _ (fun e => by injection e with _ e; cases e)]; exact c0
 ·rw [World.cell?_setCell_other _ _ _ _ (fun e => by injection e with _ e; cases e)]; exact c2
 ·cases e; exact (dm.tag g e2).ne tg (by decide) rfl
 ·cases e; exact (ho.tag g e2).ne tg (by decide) rfl
 ·cases e; exact (ce.tag g e2).ne tg (by decide) rfl
 ·cases e; exact not_tag tg (by decide) (by decide)
theorem MakA.setC {y:List CellT} (h:MakA n g w v1 v2 v3 x) (hg:w.grownBy w' v3.ownBlock) (ho:CellsO n w' u y):MidA 2 n g w' v3 u (fun z => MakA n g z v1 v2 u ⟨x.dims,x.attrs,y⟩):=by
 have hbl:=h.block hg (fun r e k => (h.ce.tag r e).ne k (by decide) rfl)
 have c0:=(World.cell?_of_block (a:=⟨g,0,none⟩) hbl).trans h.c0
 have c1:=(World.cell?_of_block (a:=⟨g,1,none⟩) hbl).trans h.c1
 have c2:=(World.cell?_of_block (a:=⟨g,2,none⟩) hbl).trans h.c2
 have f0:=(World.frozen?_of_block (a:=⟨g,0,none⟩) hbl).trans h.f0
 have f1:=(World.frozen?_of_block (a:=⟨g,1,none⟩) hbl).trans h.f1
 have f2:=(World.frozen?_of_block (a:=⟨g,2,none⟩) hbl).trans h.f2
 have tg:=h.tag.kept hbl
 have dm:=h.dm.kept hg (fun r e e2 => (h.ce.tag r e).ne (h.dm.tag r e2) (by decide) rfl)
 have at':=h.at'.kept hg (fun r e e2 => (h.ce.tag r e).ne (h.at'.tag r e2) (by decide) rfl)
 have hs:=grown_setG w' g 2 u
 refine ⟨c2,f2,tg,?_,?_,World.cell?_setCell_same _ _ _ c2,by rw [World.frozen?_setCell]; exact f0,by rw [World.frozen?_setCell]; exact f1,by rw [World.frozen?_setCell]; exact f2,dm.kept hs (fun r e e2 => ?_),at'.kept hs (fun r e e2 => ?_),ho.kept hs (fun r e e2 => ?_) (fun r e => ?_),tg.setCell _ _,h.ge⟩
 ·rw [World.cell?_setCell_other _ _ _ _ (fun e => by injection e with _ e; cases e)]; exact c0
 ·rw [World.cell?_setCell_other _ _ _ _ (fun e => by injection e with _ e; cases e)]; exact c1
 ·cases e; exact (dm.tag g e2).ne tg (by decide) rfl
 ·cases e; exact (at'.tag g e2).ne tg (by decide) rfl
 ·cases e; exact (ho.tag g e2).ne tg (by decide) rfl
 ·cases e; exact not_tag tg (by decide) (by decide)
theorem MakA.done {r:Nat} {s t q:Value} (h:MakA n g w v1 v2 v3 x) (hr:TagB w r 26):ArrR (((w.setCell ⟨r,0,none⟩ s).setCell ⟨r,1,none⟩ t).setCell ⟨r,2,none⟩ q) v1 v2 v3 x:=by
 have hg:w.grownBy (((w.setCell ⟨r,0,none⟩ s).setCell ⟨r,1,none⟩ t).setCell ⟨r,2,none⟩ q) (some r):=((grown_setG w r 0 s).trans (grown_setG _ r 1 t)).trans (grown_setG _ r 2 q)
 exact ⟨(h.dm.kept hg (fun p e e2 => by cases e; exact (h.dm.tag r e2).ne hr (by decide) rfl)).list cellw_Dim,(h.at'.kept hg (fun p e e2 => by cases e; exact (h.at'.tag r e2).ne hr (by decide) rfl)).list cellw_Attr,(h.ce.kept hg (fun p e e2 => by cases e; exact (h.ce.tag r e2).ne hr (by decide) rfl) (fun p e => by cases e; exact not_tag hr (by decide) (by decide))).cells⟩
end
def slen:Value→Nat
 | .string b => b.size
 | _ => 0
def RetVs (o:Option (List Va)) (w:World) (e:Ending) (w':World):Prop:=∃ v vs,e=.returned (.tuple #[v,.bool o.isSome])∧OwV w.heap.size w' v vs∧(∀ x,o=some x→x=vs)∧Below w.heap.size w w'
theorem bytes_drop (T:ByteArray) {i:Nat} (h:i<T.size):T.data.toList.drop i=T[i] :: T.data.toList.drop (i+1):=by
 rw [List.drop_eq_getElem_cons (by rw [lenB]; exact h)]; rfl
theorem bytes_take (T:ByteArray) {i:Nat} (h:i<T.size):T.data.toList.take (i+1)=T.data.toList.take i ++ [T[i]]:=by
 rw [List.take_succ_eq_append_getElem (by rw [lenB]; exact h)]; rfl
theorem extract_front (s:ByteArray) (n:Nat):(s.extract 0 n).data.toList=s.data.toList.take n:=Lib.extract_from_zero s n
theorem extract_rest (s:ByteArray) (n:Nat):(s.extract n s.size).data.toList=s.data.toList.drop n:=by
 rw [ByteArray.data_extract,Array.toList_extract]
 simp only [List.extract]
 rw [List.take_of_length_le]
 rw [List.length_drop,lenB]; exact Nat.le_refl _
theorem u8_eq {a b:UInt8}:((a.toNat:Int) == (b.toNat:Int))=decide (a=b):=by
 by_cases h:a=b
 ·subst h; simp
 ·rw [decide_eq_false h,beq_eq_false_iff_ne]
  intro e
  exact h (UInt8.toNat_inj.1 (by omega))
set_option maxHeartbeats 6400000 in
set_option maxRecDepth 100000 in
theorem valuesT_any (S:ByteArray) (w:World) (hm:Ml w) (hs:S.size≤20000):Calls Tryz.prog 90 #[.string S] w (RetVs (valsF [] [] false S.data.toList) w):=by
 obtain ⟨j0,hj0,hy0,hy1,hy2⟩:=info_parts infoVal
 have CR:=Lib.hid (fun (T:ByteArray) (w1:World) (hb:Below w.heap.size w w1) (h:T.size≤20000) => read_any T w1 (hm.later hb) h)
 obtain ⟨R,hR⟩:∃ R,R=valsF [] [] false S.data.toList:=⟨_,rfl⟩
 rw [← hR]
 have HR:=Lib.hid hR
 have HS:=Lib.hid hs
 clear hm hs hR
 go_enter Tryz.func90,Tryz.ntmps90
 go_wp2
 go_loopw [0,4,5,6] (fun sv ov qv iv wr => ∃ (T:ByteArray) (i:Nat) (q:Bool) (acc:List Va),sv=.string T∧iv=.int .i64 (i:Nat)∧qv=.bool q∧i≤T.size∧Hid (acc.length+T.size≤20000)∧Hid (valsF acc (T.data.toList.take i) q (T.data.toList.drop i)=R)∧OwV w.heap.size wr ov acc∧Below w.heap.size w wr) (fun sv _ _ iv _ => slen sv - (intOf iv).toNat)
 case atStart => exact ⟨S,0,false,[],rfl,rfl,rfl,Nat.zero_le _,by show _≤_; have:=HS.out; simpa using this,by show _=_; rw [HR.out,List.take_zero,List.drop_zero],OwR.nil,Below.refl _ _⟩
 case round =>
  obtain ⟨T,i,q,acc,rfl,rfl,rfl,hi,HL,HV,ho,hb⟩:=hrel
  have HO:=Lib.hid ho
  have HB:=Lib.hid hb
  have hTs:T.size≤20000:=by have:=HL.out; omega
  have hacc:acc.length≤20000:=by have:=HL.out; omega
  have a0:(i:Int)≤(T.size:Int):=by omega
  by_cases hlt:i<T.size
  ·have HI:Hid (i+1≤T.size∧T.size - (i+1)<T.size - i):=by show _∧_; omega
   have a1:(i:Int)<(T.size:Int):=by omega
   have hv:=HV.out
   rw [bytes_drop T hlt,valsF] at hv
   by_cases h39:T[i]=39
   ·have c39:((T[i].toNat:Int) == 39)=true:=by rw [h39]; rfl
    have c44:((T[i].toNat:Int) != 44)=true:=by rw [h39]; rfl
    have HN:Hid (valsF acc (T.data.toList.take (i+1)) (!q) (T.data.toList.drop (i+1))=R):=by
     show _=_
     rw [bytes_take T hlt,h39,← hv,h39,if_pos (.inr (by decide))]
     rfl
    clear HV hv h39 ho hb hi
    cases q
    all_goals
     go_wp2
     exact ⟨⟨T,i+1,_,acc,rfl,by go_num,rfl,HI.out.1,HL,HN,HO.out,HB.out⟩,HI.out.2⟩
   ·have c39:((T[i].toNat:Int) == 39)=false:=by rw [show (39:Int)=((39:UInt8).toNat:Int) from rfl,u8_eq]; exact decide_eq_false h39
    have hf:flip39 q T[i]=q:=by unfold flip39; rw [if_neg h39]
    rw [hf] at hv
    by_cases h44:q=true ∨ T[i] ≠ 44
    ·have HN:Hid (valsF acc (T.data.toList.take (i+1)) q (T.data.toList.drop (i+1))=R):=by
      show _=_
      rw [bytes_take T hlt,← hv,if_pos h44]
     cases q with
     | true =>
      clear HV hv h39 hf ho hb hi h44
      go_wp2
      exact ⟨⟨T,i+1,_,acc,rfl,by go_num,rfl,HI.out.1,HL,HN,HO.out,HB.out⟩,HI.out.2⟩
     | false =>
      have h44':T[i] ≠ 44:=by rcases h44 with h | h; cases h; exact h
      have c44:((T[i].toNat:Int) != 44)=true:=by
       rw [bne,show (44:Int)=((44:UInt8).toNat:Int) from rfl,u8_eq,decide_eq_false h44']; rfl
      clear HV hv h39 hf ho hb hi h44 h44'
      go_wp2
      exact ⟨⟨T,i+1,_,acc,rfl,by go_num,rfl,HI.out.1,HL,HN,HO.out,HB.out⟩,HI.out.2⟩
    ·obtain rfl:q=false:=by cases q; rfl; exact absurd (.inl rfl) h44
     have h44':T[i]=44:=Classical.byContradiction fun h => h44 (.inr h)
     have c44:((T[i].toNat:Int) != 44)=false:=by rw [h44']; rfl
     have HHP:Hid (Lib.hasPrefix (T.data.toList.drop i) [44,32]=decide ((T.data.toList.drop (i+1)).head? = some 32)):=by
      show _=_
      rw [bytes_drop T hlt,h44']
      unfold Lib.hasPrefix
      cases T.data.toList.drop (i+1) with
      | nil => rfl
      | cons a b =>
       have:(32 == a)=decide (some a=some (32:UInt8)):=by
        rw [Bool.eq_iff_iff,beq_iff_eq,decide_eq_true_eq,Option.some.injEq]
        exact eq_comm
       simpa [List.isPrefixOf] using this
     rw [if_neg h44] at hv
     have HVV:=Lib.hid hv
     have CRi:=Lib.hid (CR.out (T.extract 0 i) wr hb (by rw [ByteArray.size_extract]; omega))
     rw [extract_front] at CRi
     have e0:(i:Int) ≠ (T.size:Int):=by omega
     have e1:((i:Int) == (T.size:Int))=false:=by rw [beq_eq_false_iff_ne]; omega
     clear HV hv h39 hf ho hb hi h44 h44' CR
     go_wp2_with fail
     refine CRi.out.mono ?_
     rintro e w1 ⟨rfl,hb⟩
     have HB1:=Lib.hid (below_keep HB.out hb)
     have HO1:=Lib.hid (HO.out.later hb)
     clear hb CRi
     obtain ⟨V,hV⟩:∃ V,V=readM (T.data.toList.take i):=⟨_,rfl⟩
     have HVE:=Lib.hid hV
     rw [← hV]
     clear hV
     unfold readE
     by_cases hr:rightV V=true
     ·have hv:=HVV.out
      unfold valO at hv
      rw [← HVE.out,if_pos hr] at hv
      simp only at hv
      have HV2:=Lib.hid hv
      rw [if_pos hr]
      obtain ⟨kd,nu,de,st⟩:=V
      have hsz:w.heap.size≤w1.heap.size:=HB1.out.size
      have hrow:=HO1.out.row
      clear hv HVV hr
      go_wp2_with (at_builtin; refine wpList_append_lies _ (by rfl) _ _ 60 (by rfl) w.heap.size 59 j0 (.agg #[.int .i64 0,.int .i64 0,.int .i64 0,.string ⟨#[]⟩]) 4 40 Tryz.underlying60 hj0 hy0 hy1 hy2 rfl (by decide) _ acc.length (acc.flatMap vcells) (by rfl) ((hrow.alloc _).alloc _) ⟨w1.heap.size+1,0,none⟩ 1 1 [.int .i64 kd,.int .i64 nu,.int .i64 de,.string ⟨st.toArray⟩] (by rfl) (by rfl) (by have:=lit_at (w1.alloc (.cells #[.int .i64 kd,.int .i64 nu,.int .i64 de,.string ⟨st.toArray⟩] 59)) [.int .i64 kd,.int .i64 nu,.int .i64 de,.string ⟨st.toArray⟩] 59; rwa [World.size_alloc] at this) (by simp [Value.oneCell']) (by omega) (by unfold maxLen; omega) (by omega) (by simp; omega) (w1.heap.size+2) (by simp) ?_)
      intro g7 cp7 w7 hown hgrow hat hlt6
      have HO7:Hid (OwV w.heap.size w7 (.slice (some ⟨g7,0,none⟩) (acc.length+1) cp7) (acc ++ [⟨kd,nu,de,st⟩])):=OwR.snoc hown
      have HB7:Hid (Below w.heap.size w w7):=by
       have h1:=below_keep (below_keep HB1.out (below_alloc w1 (.cells #[.int .i64 kd,.int .i64 nu,.int .i64 de,.string ⟨st.toArray⟩] 59))) (below_alloc _ (.cells #[.int .i64 kd,.int .i64 nu,.int .i64 de,.string ⟨st.toArray⟩] 59))
       exact h1.grown hgrow (by simp; omega) (fun k e => (hrow.lt k e).1)
      have HML:=Lib.hid (HO7.out.later (Below.refl _ _))
      clear hrow hown hgrow hat hlt6 hsz
      have CH:=Lib.hid (Tryz.strings_HasPrefix (T.extract i T.size) ⟨#[44,32]⟩ w7)
      rw [extract_rest,HHP.out] at CH
      obtain ⟨B,hB⟩:∃ B,decide ((T.data.toList.drop (i+1)).head? = some 32)=B:=⟨_,rfl⟩
      rw [hB] at CH
      have HBB:=Lib.hid hB
      clear hB
      go_wp2_with fail
      refine CH.out.mono ?_
      rintro e w8 ⟨rfl,hw8⟩
      subst w8
      clear CH
      cases B with
      | true =>
       have hp:(T.data.toList.drop (i+1)).head? = some 32:=of_decide_eq_true HBB.out
       have hi2:i+2≤T.size:=by
        rcases Nat.lt_or_ge (i+1) T.size with h | h
        ·omega
        ·rw [List.drop_eq_nil_of_le (by rw [lenB]; exact h)] at hp; cases hp
       have hv:=HV2.out
       rw [if_pos hp,List.drop_drop] at hv
       have HN:Hid (valsF (acc ++ [⟨kd,nu,de,st⟩]) ((T.extract (i+2) T.size).data.toList.take 0) false ((T.extract (i+2) T.size).data.toList.drop 0)=R):=by
        show _=_
        rw [List.take_zero,List.drop_zero,extract_rest]
        exact hv
       have HN2:Hid ((acc ++ ([⟨kd,nu,de,st⟩]:List Va)).length+(T.extract (i+2) T.size).size≤20000∧(T.extract (i+2) T.size).size - 0<T.size - i):=by
        show _∧_
        have:=HL.out
        rw [ByteArray.size_extract,List.length_append,List.length_singleton]
        omega
       have b2:(0:Int)≤(i:Int)+2:=by omega
       have b3:(i:Int)+2≤(T.size:Int):=by omega
       have b4:IntKind.i64.wrap ((i:Int)+2)=(i:Int)+2:=IntWalk.i64_in _ (by omega)
       have b5:((i:Int)+2).toNat=i+2:=by omega
       clear hv hp hi2 HV2 HHP
       go_wp2
       exact ⟨⟨T.extract (i+2) T.size,0,false,_,rfl,rfl,rfl,Nat.zero_le _,HN2.out.1,HN.out,HO7.out,HB7.out⟩,HN2.out.2⟩
      | false =>
       have hp:¬ (T.data.toList.drop (i+1)).head? = some 32:=of_decide_eq_false HBB.out
       have hv:=HV2.out
       rw [if_neg hp] at hv
       have HRN:=Lib.hid hv
       clear hv hp HV2 HHP
       go_wp2
       go_ret2
       exact ⟨_,[],by rw [← HRN.out]; rfl,OwR.nil,fun x hx => (by rw [← HRN.out] at hx; cases hx),HB7.out⟩
     ·have hv:=HVV.out
      unfold valO at hv
      rw [← HVE.out,if_neg hr] at hv
      have HRN:=Lib.hid hv
      rw [if_neg hr]
      clear hv HVV hr
      go_wp2
      go_ret2
      exact ⟨_,[],by rw [← HRN.out]; rfl,OwR.nil,fun x hx => (by rw [← HRN.out] at hx; cases hx),(below_keep HB1.out (below_alloc _ _))⟩
  ·obtain rfl:i=T.size:=by omega
   have hv:=HV.out
   rw [List.drop_eq_nil_of_le (by rw [lenB]; exact Nat.le_refl _),List.take_of_length_le (by rw [lenB]; exact Nat.le_refl _),valsF] at hv
   have HVV:=Lib.hid hv
   have CRi:=Lib.hid (CR.out T wr hb hTs)
   have a1:¬ (T.size:Int)<(T.size:Int):=by omega
   clear HV hv ho hb hi CR hlt
   go_wp2_with fail
   refine CRi.out.mono ?_
   rintro e w1 ⟨rfl,hb⟩
   have HB1:=Lib.hid (below_keep HB.out hb)
   have HO1:=Lib.hid (HO.out.later hb)
   clear hb CRi
   obtain ⟨V,hV⟩:∃ V,V=readM T.data.toList:=⟨_,rfl⟩
   have HVE:=Lib.hid hV
   rw [← hV]
   clear hV
   unfold readE
   by_cases hr:rightV V=true
   ·have hv:=HVV.out
    unfold valO at hv
    rw [← HVE.out,if_pos hr] at hv
    simp only at hv
    have HV2:=Lib.hid hv
    rw [if_pos hr]
    obtain ⟨kd,nu,de,st⟩:=V
    have hsz:w.heap.size≤w1.heap.size:=HB1.out.size
    have hrow:=HO1.out.row
    clear hv HVV hr
    go_wp2_with (at_builtin; refine wpList_append_lies _ (by rfl) _ _ 60 (by rfl) w.heap.size 59 j0 (.agg #[.int .i64 0,.int .i64 0,.int .i64 0,.string ⟨#[]⟩]) 4 40 Tryz.underlying60 hj0 hy0 hy1 hy2 rfl (by decide) _ acc.length (acc.flatMap vcells) (by rfl) ((hrow.alloc _).alloc _) ⟨w1.heap.size+1,0,none⟩ 1 1 [.int .i64 kd,.int .i64 nu,.int .i64 de,.string ⟨st.toArray⟩] (by rfl) (by rfl) (by have:=lit_at (w1.alloc (.cells #[.int .i64 kd,.int .i64 nu,.int .i64 de,.string ⟨st.toArray⟩] 59)) [.int .i64 kd,.int .i64 nu,.int .i64 de,.string ⟨st.toArray⟩] 59; rwa [World.size_alloc] at this) (by simp [Value.oneCell']) (by omega) (by unfold maxLen; omega) (by omega) (by simp; omega) (w1.heap.size+2) (by simp) ?_)
    intro g7 cp7 w7 hown hgrow hat hlt6
    have HO7:Hid (OwV w.heap.size w7 (.slice (some ⟨g7,0,none⟩) (acc.length+1) cp7) (acc ++ [⟨kd,nu,de,st⟩])):=OwR.snoc hown
    have HB7:Hid (Below w.heap.size w w7):=by
     have h1:=below_keep (below_keep HB1.out (below_alloc w1 (.cells #[.int .i64 kd,.int .i64 nu,.int .i64 de,.string ⟨st.toArray⟩] 59))) (below_alloc _ (.cells #[.int .i64 kd,.int .i64 nu,.int .i64 de,.string ⟨st.toArray⟩] 59))
     exact h1.grown hgrow (by simp; omega) (fun k e => (hrow.lt k e).1)
    clear hrow hown hgrow hat hlt6 hsz
    go_wp2
    go_ret2
    exact ⟨_,_,by rw [← HV2.out]; rfl,HO7.out,fun x hx => (by rw [← HV2.out] at hx; cases hx; rfl),HB7.out⟩
   ·have hv:=HVV.out
    unfold valO at hv
    rw [← HVE.out,if_neg hr] at hv
    have HRN:=Lib.hid hv
    rw [if_neg hr]
    clear hv HVV hr
    go_wp2
    go_ret2
    exact ⟨_,[],by rw [← HRN.out]; rfl,OwR.nil,fun x hx => (by rw [← HRN.out] at hx; cases hx),(below_keep HB1.out (below_alloc _ _))⟩
theorem splitL_len (c:UInt8):∀ (s:List UInt8),(splitL c s).length≤s.length+1
 | [] => by simp [splitL]
 | x :: r => by
  have ih:=splitL_len c r
  obtain ⟨p,q,e⟩:=splitL_ne c r
  rw [splitL]
  split
  ·simp only [List.length_cons]; omega
  ·rw [e] at ih ⊢
   simp only [List.length_cons] at ih ⊢
   omega
theorem splitL_part (c:UInt8):∀ (s:List UInt8),∀ p ∈ splitL c s,p.length≤s.length
 | [],p,h => by simp only [splitL,List.mem_singleton] at h; subst h; simp
 | x :: r,p,h => by
  have ih:=splitL_part c r
  obtain ⟨a,b,e⟩:=splitL_ne c r
  rw [splitL] at h
  rw [List.length_cons]
  split at h
  ·rcases List.mem_cons.1 h with h | h
   ·subst h; simp
   ·have:=ih p h; omega
  ·rw [e] at h ih
   simp only at h
   rcases List.mem_cons.1 h with h | h
   ·subst h
    have:=ih a (by simp)
    simp only [List.length_cons]; omega
   ·have:=ih p (List.mem_cons_of_mem _ h); omega
theorem intsO_snoc (x:List UInt8):∀ (l:List (List UInt8)),intsO (l ++ [x])=match intsO l,intO x with
  | some a,some n => some (a ++ [n])
  | _,_ => none
 | [] => by
  show intsO [x]=_
  rw [intsO,intsO]
  cases intO x <;> rfl
 | s :: r => by
  rw [List.cons_append,intsO,intsO_snoc x r,intsO]
  cases intO s with
  | none => cases intsO r <;> cases intO x <;> rfl
  | some n => cases intsO r <;> cases intO x <;> rfl
theorem strs_made (w:World) (L:List ByteArray) (hl:L.length≤1000000) (n:Nat) (hn:n=L.length):Strs (w.alloc (.cells (L.map Value.string).toArray 9)) (.slice (some ⟨w.heap.size,0,none⟩) n n) (L.map fun b => b.data.toList):=by
 subst hn
 refine ⟨_,L.length,by rw [List.length_map],by rw [List.length_map]; exact Nat.le_refl _,by omega,fun _ => ⟨_,0,rfl,fun i x hi => ?_⟩⟩
 rw [List.getElem?_map] at hi
 obtain ⟨b,hb,rfl⟩:=Option.map_eq_some_iff.1 hi
 show (w.alloc (.cells (L.map Value.string).toArray 9)).cell? ⟨w.heap.size,0+i * 1,none⟩=some (.string ⟨b.data.toList.toArray⟩)
 rw [Nat.zero_add,Nat.mul_one,World.cell?_alloc_at _ _ _ _ rfl]
 simp [hb]
def RetSp (L:List (List UInt8)) (w:World) (e:Ending) (w':World):Prop:=∃ v,e=.returned v∧StrT w' v L∧Below w.heap.size w w'
theorem splitS_any (s:List UInt8) (c:UInt8) (w:World) (hm:Ml w) (hs:s.length≤20000):Calls Tryz.prog 41 #[strV s,strV [c]] w (RetSp (splitL c s) w):=by
 obtain ⟨m,hm⟩:=hm
 have hsz:(⟨s.toArray⟩:ByteArray).size=s.length:=by simp [ByteArray.size]
 have h1:1≤(⟨[c].toArray⟩:ByteArray).size:=by simp [ByteArray.size]
 have hd:=Lib.splitB_data ⟨[c].toArray⟩ 0 (Lib.countB ⟨s.toArray⟩ ⟨[c].toArray⟩) ⟨s.toArray⟩
 have hlen:=Lib.splitB_all ⟨[c].toArray⟩ h1 0 _ ⟨s.toArray⟩ rfl
 have hk:Lib.splitK [c] 0 (Lib.countB ⟨s.toArray⟩ ⟨[c].toArray⟩) s=splitL c s:=splitK_L c _ s rfl
 simp only at hd
 rw [hk] at hd
 refine (Tryz.strings_Split ⟨s.toArray⟩ ⟨[c].toArray⟩ m w (by omega) hm h1).mono ?_
 rintro e w' ⟨rfl,rfl⟩
 have hll:(splitL c s).length≤20001:=Nat.le_trans (splitL_len c s) (by omega)
 refine ⟨_,rfl,⟨?_,fun b e => by cases e; exact ⟨_,_,World.alloc_heap_new w _⟩⟩,below_alloc _ _⟩
 rw [← hd]
 refine strs_made w _ ?_ _ hlen.symm
 rw [← List.length_map (f:=fun b:ByteArray => b.data.toList),hd]
 omega
def RetCg (o:Option CellT) (w:World) (e:Ending) (w':World):Prop:=∃ v1 v2 c,e=.returned (.tuple #[.agg #[v1,v2],.bool o.isSome])∧CeO w.heap.size w' v1 v2 c∧(∀ x,o=some x→x=c)∧Below w.heap.size w w'
def cellPT (a:Option (List Int)) (b:Option (List Va)) (pb:Bool):Option CellT:=match a,b with
 | some c,some v => if pb=true then some ⟨c,v⟩ else none
 | _,_ => none
theorem cellO_eq {s P1 P2:List UInt8} {pb:Bool} (h:Lib.cut s [58,32]=(P1,P2,pb)):cellO s=cellPT (intsO (splitL 32 P1)) (valsF [] [] false P2) pb:=by
 unfold cellO
 rw [h]
 rfl
theorem cellPT_some (a:Option (List Int)) (o:Option (List Va)) (pb:Bool):(cellPT a o pb).isSome=(pb && a.isSome && o.isSome)∧∀ c,cellPT a o pb=some c→a=some c.co∧o=some c.vals:=by
 cases a with
 | none => simp [cellPT]
 | some x =>
  cases o with
  | none => simp [cellPT]
  | some y =>
   cases pb
   ·simp [cellPT]
   ·refine ⟨rfl,fun c h => ?_⟩
    cases h
    exact ⟨rfl,rfl⟩
theorem cut_len (s p:List UInt8):(Lib.cut s p).1.length≤s.length∧(Lib.cut s p).2.1.length≤s.length:=by
 unfold Lib.cut
 split
 ·simp only [List.length_take,List.length_drop]; omega
 ·simp
set_option maxHeartbeats 6400000 in
set_option maxRecDepth 100000 in
theorem cellOf_any (s:List UInt8) (w:World) (hg:Gl w) (hl:s.length≤20000):Calls Tryz.prog 45 #[strV s] w (RetCg (cellO s) w):=by
 obtain ⟨j0,hj0,hy0,hy1,hy2⟩:=info_parts infoIntC
 obtain ⟨⟨P1,P2,pb⟩,e1⟩:∃ p,Lib.cut s [58,32]=p:=⟨_,rfl⟩
 have l1:P1.length≤20000:=by have:=(cut_len s [58,32]).1; rw [e1] at this; simp only at this; omega
 have l2:P2.length≤20000:=by have:=(cut_len s [58,32]).2; rw [e1] at this; simp only at this; omega
 have C1:Hid (∀ w1,Below w.heap.size w w1→Calls Tryz.prog 88 #[strV s,strV [58,32]] w1 (RetV' (.tuple #[strV P1,strV P2,.bool pb]) w1)):=fun w1 hb => by
  have:=cutS_any s [58,32] w1 (hg.ml.later hb) hl
  rwa [e1] at this
 obtain ⟨L,hL⟩:∃ L,L=splitL 32 P1:=⟨_,rfl⟩
 have C2:Hid (∀ w1,Below w.heap.size w w1→Calls Tryz.prog 41 #[strV P1,strV [32]] w1 (RetSp L w1)):=fun w1 hb => by
  rw [hL]; exact splitS_any P1 32 w1 (hg.ml.later hb) l1
 have CI:Hid (∀ x ∈ L,∀ w1,Below w.heap.size w w1→Calls Tryz.prog 89 #[strV x] w1 (RetIo x w1)):=fun x hx w1 hb =>
  integer_any x w1 (hg.later hb) (by have:=splitL_part 32 P1 x (by rw [← hL]; exact hx); omega)
 obtain ⟨O,hO⟩:∃ O,O=valsF [] [] false P2:=⟨_,rfl⟩
 have CV:Hid (∀ w1,Below w.heap.size w w1→Calls Tryz.prog 90 #[strV P2] w1 (RetVs O w1)):=fun w1 hb => by
  have:=valuesT_any ⟨P2.toArray⟩ w1 (hg.ml.later hb) (by simp [ByteArray.size]; exact l2)
  rwa [hO]
 have HLL:Hid (L.length≤20001):=by show _≤_; rw [hL]; have:=splitL_len 32 P1; omega
 have HCO:Hid (cellO s=cellPT (intsO L) O pb):=by
  show _=_
  rw [hL,hO]
  exact cellO_eq e1
 obtain ⟨W0,hW0,hb0,hs0,hx0⟩:=blk_at w [.slice none 0 0,.slice none 0 0] 62
 have HB0:=Lib.hid hb0
 have HX0:=Lib.hid hx0
 have HS0:=Lib.hid hs0
 clear hg hl l1 l2 e1 hL hO hb0 hx0 hs0
 go_enter Tryz.func45,Tryz.ntmps45
 go_upto_region 1 with (fail)
 rw [← hW0]
 clear hW0
 go_wp2_with fail
 refine (C1.out _ HB0.out).mono ?_
 rintro e w1 ⟨rfl,hb⟩
 have HB1:=Lib.hid hb
 have HM1:=Lib.hid (MakC.start w1)
 obtain ⟨W1,hW1⟩:∃ W1,W1=w1.alloc (.cells #[.slice none 0 0,.slice none 0 0] 62):=⟨_,rfl⟩
 rw [← hW1] at HM1
 have HB2:Hid (Below W0.heap.size W0 W1):=by rw [hW1]; exact below_keep HB1.out (below_alloc _ _)
 clear hb C1
 go_upto_region 3 with (fail)
 rw [← hW1]
 clear hW1
 go_wp2_with fail
 refine (C2.out _ (below_keep HB0.out HB2.out)).mono ?_
 rintro e w2 ⟨v,rfl,hsv,hb⟩
 have HSV:=Lib.hid hsv
 obtain ⟨sa,sc,rfl,-⟩:=hsv.list.shape
 have hg0:w.heap.size<W0.heap.size:=HS0.out
 have hg1:W0.heap.size≤w1.heap.size:=HB1.out.size
 have HM2:=Lib.hid ((HM1.out.later hb).base hg1)
 have HB3:=Lib.hid (below_keep HB2.out hb)
 have hll:L.length≤20001:=HLL.out
 clear hsv hb C2 HM1
 go_wp2
 go_loopw [6,22] (fun bv iv wr => ∃ (j:Nat) (v1:Value) (b:Bool) (co:List Int),j≤L.length∧iv=.int .i64 (j:Nat)∧bv=.bool b∧Hid (co.length=j)∧Hid (b=(pb && (intsO (L.take j)).isSome))∧Hid (∀ l,intsO (L.take j)=some l→l=co)∧MakC W0.heap.size w1.heap.size wr v1 (.slice none 0 0) ⟨co,[]⟩∧Below W0.heap.size W0 wr∧StrT wr (.slice sa L.length sc) L) (fun _ iv _ => L.length - (intOf iv).toNat)
 case atStart => exact ⟨0,_,pb,[],Nat.zero_le _,rfl,rfl,rfl,(by show _=_; rw [List.take_zero]; simp [intsO]),(fun l hl => by rw [List.take_zero] at hl; cases hl; rfl),HM2.out,HB3.out,HSV.out⟩
 case round =>
  obtain ⟨j,v1,b,co,hj,rfl,rfl,HCL,HBE,HCE,hmk,hb,hst⟩:=hrel
  have HMK:=Lib.hid hmk
  have HB:=Lib.hid hb
  have HST:=Lib.hid hst
  by_cases hlt:j<L.length
  ·obtain ⟨gs,os,x,ea,hx,hr⟩:=hst.list.at j hlt
   subst ea
   unfold StrR at hr
   rw [Nat.mul_one] at hr
   have HX:=Lib.hid hx
   have CIx:=Lib.hid (CI.out x (List.mem_of_getElem? hx) wr (below_keep HB0.out hb))
   have HI:Hid (j+1≤L.length∧L.length - (j+1)<L.length - j):=by show _∧_; omega
   have b0:(0:Int)≤(j:Int):=by omega
   have b1:(j:Int)<(L.length:Int):=by omega
   clear hj hx hmk hb hst hlt
   go_wp2_with fail
   refine CIx.out.mono ?_
   rintro e w5 ⟨n,rfl,hn,hb⟩
   obtain ⟨A,hA⟩:∃ A,(intO x).isSome=A:=⟨_,rfl⟩
   rw [hA]
   have HN:=Lib.hid (And.intro hn hA)
   have HM5:=Lib.hid (HMK.out.later hb)
   have HB5:=Lib.hid (below_keep HB.out hb)
   have HST5:=Lib.hid (HST.out.later hb)
   have c0:=HM5.out.c0
   have hrow:=HM5.out.co.row
   have hcl:=HCL.out
   simp only at hrow
   rw [hcl] at hrow
   have hju:j≤30000:=by have:=HI.out.1; have:=HLL.out; omega
   have hw0:W0.heap.size≤w5.heap.size:=HB5.out.size
   obtain ⟨va,vc,hva⟩:∃ va vc,v1=.slice va j vc:=by
    obtain ⟨va,vc,e,-⟩:=(HM5.out.co.list cellw_Int).shape
    exact ⟨va,vc,by rw [e,hcl]⟩
   subst hva
   have htk:L.take (j+1)=L.take j ++ [x]:=take_snoc' HX.out
   have HBN:Hid ((b && A)=(pb && (intsO (L.take (j+1))).isSome)):=by
    show _=_
    rw [htk,intsO_snoc,HBE.out,← HN.out.2]
    cases intsO (L.take j) <;> cases intO x <;> simp
   have HCN:Hid (∀ l,intsO (L.take (j+1))=some l→l=co ++ [n]):=fun l hl => by
    rw [htk,intsO_snoc] at hl
    cases h1:intsO (L.take j) with
    | none => rw [h1] at hl; cases hl
    | some a =>
     cases h2:intO x with
     | none => rw [h1,h2] at hl; cases hl
     | some m =>
      rw [h1,h2] at hl
      cases hl
      rw [HCE.out a h1,HN.out.1 m h2]
   have HCL2:Hid ((co ++ [n]).length=j+1):=by show _=_; rw [List.length_append,HCL.out]; rfl
   clear hn hA hb hcl hr CIx htk HBE HCE HCL HX
   cases b
   all_goals
    go_wp2_with (at_builtin; refine wpList_append_lies _ (by rfl) _ _ 36 (by rfl) W0.heap.size 3 j0 (.int .i64 0) 1 8 Tryz.underlying36 hj0 hy0 hy1 hy2 rfl (by decide) _ j (co.flatMap cellsInt) (by rfl) (hrow.alloc _) ⟨w5.heap.size,0,none⟩ 1 1 [.int .i64 n] (by rfl) (by rfl) (lit_at w5 [.int .i64 n] 3) (by simp [Value.oneCell']) (by omega) (by unfold maxLen; omega) (by omega) (by simp; omega) (w5.heap.size+1) (by simp) ?_)
    intro g7 cp7 w7 hown hgrow hat hlt6
    have hco:OwI W0.heap.size w7 (.slice (some ⟨g7,0,none⟩) (j+1) cp7) (co ++ [n]):=OwR.snoc (by rw [show co.length=j by have:=HCL2.out; simpa using this]; exact hown)
    have HMD:=Lib.hid ((HM5.out.later (below_alloc w5 (.cells #[.int .i64 n] 3))).setI hgrow hco)
    have HB7:Hid (Below W0.heap.size W0 w7):=(below_keep HB5.out (below_alloc w5 (.cells #[.int .i64 n] 3))).grown hgrow (by simp; omega) (fun k e => (hrow.lt k e).1)
    have HB8:Hid (∀ u,Below W0.heap.size W0 (w7.setCell ⟨w1.heap.size,0,none⟩ u)):=fun u => HB7.out.setCell (p:=⟨w1.heap.size,0,none⟩) hg1 u
    have HS7:Hid (∀ u,StrT (w7.setCell ⟨w1.heap.size,0,none⟩ u) (.slice (some ⟨gs,os,none⟩) L.length sc) L):=fun u => (((HST5.out.later (below_alloc w5 (.cells #[.int .i64 n] 3))).kept hgrow (fun r e => (HM5.out.later (below_alloc w5 (.cells #[.int .i64 n] 3))).co.tag r e) (by decide)).set HMD.out.tg (by decide) _ _)
    have d0:=HMD.out.c0
    have e0:=HMD.out.f0
    clear hown hgrow hat hlt6 hco hrow c0
    go_wp2
    exact ⟨⟨j+1,_,_,_,HI.out.1,by go_num,rfl,HCL2.out,HBN.out,HCN.out,HMD.out.out,HB8.out _,HS7.out _⟩,HI.out.2⟩
  ·obtain rfl:j=L.length:=by omega
   have hbe:=HBE.out
   have hce:=HCE.out
   rw [List.take_length] at hbe hce
   have HBL:=Lib.hid hbe
   have HCC:=Lib.hid hce
   have CVw:=Lib.hid (CV.out wr (below_keep HB0.out hb))
   have b1:¬ (L.length:Int)<(L.length:Int):=by omega
   have HWW:Hid (W0.heap.size≤wr.heap.size):=hb.size
   clear hbe hce HBE HCE hmk hb hst hj hlt CV CI
   go_wp2_with fail
   refine CVw.out.mono ?_
   rintro e w5 ⟨v,vs,rfl,hov,hvs,hb5⟩
   have HVS:=Lib.hid hvs
   have HMD:=Lib.hid ((HMK.out.later hb5).setV (row:=none) (grown_of_below (Below.refl w5.heap.size w5) none) (fun r e => by cases e) (hov.base HWW.out))
   obtain ⟨va,vc,hva,-⟩:=(hov.list cellw_val).shape
   subst hva
   obtain ⟨W5,hW5⟩:∃ W5,W5=w5.setCell ⟨w1.heap.size,1,none⟩ (.slice va vs.length vc):=⟨_,rfl⟩
   have HM5:Hid (MakC W0.heap.size w1.heap.size W5 v1 (.slice va vs.length vc) ⟨co,vs⟩):=by rw [hW5]; exact HMD.out.out
   have HB5:Hid (Below W0.heap.size W0 W5):=by rw [hW5]; exact (below_keep HB.out hb5).setCell (p:=⟨w1.heap.size,1,none⟩) hg1 _
   have d1:=HMD.out.c1
   have k1:=HMD.out.f1
   obtain ⟨A,hA⟩:∃ A,O.isSome=A:=⟨_,rfl⟩
   rw [hA]
   have HA:=Lib.hid hA
   clear hov hvs hb5 hA CVw
   go_upto_region 12 with (fail)
   rw [← hW5]
   clear hW5 d1 k1 HMD
   have c0:=HM5.out.c0
   have c1:=HM5.out.c1
   obtain ⟨ia,ic,hia,-⟩:=(HM5.out.co.list cellw_Int).shape
   subst hia
   obtain ⟨x,xf,xt⟩:=HX0.out W5 HB5.out
   have r0:=x 0 _ rfl
   have r1:=x 1 _ rfl
   have f0:=xf 0
   have f1:=xf 1
   have HXT:=Lib.hid xt
   have HFIN:Hid (∀ a b,CeO w.heap.size ((W5.setCell ⟨w.heap.size,0,none⟩ a).setCell ⟨w.heap.size,1,none⟩ b) (.slice ia co.length ic) (.slice va vs.length vc) ⟨co,vs⟩∧Below w.heap.size w ((W5.setCell ⟨w.heap.size,0,none⟩ a).setCell ⟨w.heap.size,1,none⟩ b)):=fun a b =>
    ⟨(HM5.out.done HXT.out).base (Nat.le_of_lt HS0.out),((below_keep HB0.out HB5.out).setCell (p:=⟨w.heap.size,0,none⟩) (Nat.le_refl _) _).setCell (p:=⟨w.heap.size,1,none⟩) (Nat.le_refl _) _⟩
   have HRES:Hid ((cellO s).isSome=(b && A)∧∀ c,cellO s=some c→c=⟨co,vs⟩):=by
    obtain ⟨k1,k2⟩:=cellPT_some (intsO L) O pb
    show _∧_
    rw [HCO.out]
    refine ⟨by rw [k1,HBL.out,HA.out],fun c hc => ?_⟩
    obtain ⟨m1,m2⟩:=k2 c hc
    obtain ⟨p,q⟩:=c
    simp only at m1 m2
    rw [HCC.out p m1,HVS.out q m2]
   clear x xf xt HX0 HCO HBL HCC HVS HA
   cases b
   all_goals
    go_wp2
    refine bodyPost_ret (by simp [results,Tryz.results45,go_sem,r0,r1]; try rfl) rfl ?_
    exact ⟨_,_,⟨co,vs⟩,by rw [HRES.out.1]; rfl,(HFIN.out _ _).1,HRES.out.2,(HFIN.out _ _).2⟩
structure ArrO (n:Nat) (w:World) (v1 v2 v3:Value) (x:ArrT):Prop where
 d:OwD n w v1 x.dims
 a:OwA n w v2 x.attrs
 c:CellsO n w v3 x.cells
theorem ArrO.arr {n:Nat} {w:World} {v1 v2 v3:Value} {x:ArrT} (h:ArrO n w v1 v2 v3 x):ArrR w v1 v2 v3 x:=⟨h.d.list cellw_Dim,h.a.list cellw_Attr,h.c.cells⟩
theorem ArrO.later {n:Nat} {w w':World} {v1 v2 v3:Value} {x:ArrT} (h:ArrO n w v1 v2 v3 x) (hb:Below w.heap.size w w'):ArrO n w' v1 v2 v3 x:=⟨h.d.later hb,h.a.later hb,h.c.later hb⟩
theorem ArrO.set3 {n r:Nat} {w:World} {v1 v2 v3 s t q:Value} {x:ArrT} (h:ArrO n w v1 v2 v3 x) (hr:TagB w r 26):ArrO n (((w.setCell ⟨r,0,none⟩ s).setCell ⟨r,1,none⟩ t).setCell ⟨r,2,none⟩ q) v1 v2 v3 x:=by
 have hg:w.grownBy (((w.setCell ⟨r,0,none⟩ s).setCell ⟨r,1,none⟩ t).setCell ⟨r,2,none⟩ q) (some r):=((grown_setG w r 0 s).trans (grown_setG _ r 1 t)).trans (grown_setG _ r 2 q)
 exact ⟨h.d.kept hg (fun p e e2 => by cases e; exact (h.d.tag r e2).ne hr (by decide) rfl),h.a.kept hg (fun p e e2 => by cases e; exact (h.a.tag r e2).ne hr (by decide) rfl),h.c.kept hg (fun p e e2 => by cases e; exact (h.c.tag r e2).ne hr (by decide) rfl) (fun p e => by cases e; exact not_tag hr (by decide) (by decide))⟩
def RetAeT (o:Option ArrT) (w:World) (e:Ending) (w':World):Prop :=
 (∃ x n v1 v2 v3,o=some x∧e=.returned (.tuple #[.agg #[v1,v2,v3],.int .i64 0])∧ArrO n w' v1 v2 v3 x∧Below w.heap.size w w') ∨
 (o=none∧e=.returned (.tuple #[.agg #[.slice none 0 0,.slice none 0 0,.slice none 0 0],.int .i64 7])∧Below w.heap.size w w')
theorem preS_any (l p:List UInt8) (w:World):Calls Tryz.prog 42 #[strV l,strV p] w (fun e w' => e=.returned (.tuple #[strV (Lib.trimPrefix l p),.bool (Lib.hasPrefix l p)])∧w'=w) :=
 Tryz.strings_CutPrefix ⟨l.toArray⟩ ⟨p.toArray⟩ w
theorem sufS_any (l p:List UInt8) (w:World) (hl:l.length≤20000):Calls Tryz.prog 40 #[strV l,strV p] w (fun e w' => e=.returned (.tuple #[strV (Lib.trimSuffix l p),.bool (Lib.hasSuffix l p)])∧w'=w) :=
 Tryz.strings_CutSuffix ⟨l.toArray⟩ ⟨p.toArray⟩ w (by simp [ByteArray.size]; omega)
theorem trimP_len (l p:List UInt8):(Lib.trimPrefix l p).length≤l.length:=by
 unfold Lib.trimPrefix
 split
 ·rw [List.length_drop]; omega
 ·exact Nat.le_refl _
theorem trimS_len (l p:List UInt8):(Lib.trimSuffix l p).length≤l.length:=by
 unfold Lib.trimSuffix
 split
 ·rw [List.length_take]; omega
 ·exact Nat.le_refl _
theorem dimO_name {s:List UInt8} {d:DimT} (h:dimO s=some d):d.name.length≤s.length:=by
 rw [← dimO_some h]
 unfold dimB
 rw [List.length_append]; omega
theorem attrO_name {s:List UInt8} {a:AttrT} (h:attrO s=some a):a.name.length≤s.length:=by
 rw [← attrO_some h]
 unfold attrB
 rw [List.length_append]; omega
def okX:Option ArrT→Option ArrT
 | some x => if checkE x=0 then some x else none
 | none => none
theorem readA_ok (s:List UInt8):readA s=okX (parseE s):=by
 rw [readA_parse]
 cases parseE s <;> rfl
theorem set3_at {w:World} {g:Nat} {a b c:Value} (h0:w.cell? ⟨g,0,none⟩=some a) (h1:w.cell? ⟨g,1,none⟩=some b) (h2:w.cell? ⟨g,2,none⟩=some c) (u v t:Value) :
  (((w.setCell ⟨g,0,none⟩ u).setCell ⟨g,1,none⟩ v).setCell ⟨g,2,none⟩ t).cell? ⟨g,0,none⟩=some u∧(((w.setCell ⟨g,0,none⟩ u).setCell ⟨g,1,none⟩ v).setCell ⟨g,2,none⟩ t).cell? ⟨g,1,none⟩=some v∧(((w.setCell ⟨g,0,none⟩ u).setCell ⟨g,1,none⟩ v).setCell ⟨g,2,none⟩ t).cell? ⟨g,2,none⟩=some t:=by
 have e01:(⟨g,0,none⟩:Addr) ≠ ⟨g,1,none⟩:=fun e => by injection e with _ e; cases e
 have e02:(⟨g,0,none⟩:Addr) ≠ ⟨g,2,none⟩:=fun e => by injection e with _ e; cases e
 have e12:(⟨g,1,none⟩:Addr) ≠ ⟨g,2,none⟩:=fun e => by injection e with _ e; cases e
 have k1:(w.setCell ⟨g,0,none⟩ u).cell? ⟨g,1,none⟩=some b:=by rw [World.cell?_setCell_other _ _ _ _ e01]; exact h1
 have k2:((w.setCell ⟨g,0,none⟩ u).setCell ⟨g,1,none⟩ v).cell? ⟨g,2,none⟩=some c:=by rw [World.cell?_setCell_other _ _ _ _ e12,World.cell?_setCell_other _ _ _ _ e02]; exact h2
 refine ⟨?_,?_,World.cell?_setCell_same _ _ _ k2⟩
 ·rw [World.cell?_setCell_other _ _ _ _ (Ne.symm e02),World.cell?_setCell_other _ _ _ _ (Ne.symm e01)]; exact World.cell?_setCell_same _ _ _ h0
 ·rw [World.cell?_setCell_other _ _ _ _ (Ne.symm e12)]; exact World.cell?_setCell_same _ _ _ k1
theorem set2_at {w:World} {g:Nat} {a b:Value} (h0:w.cell? ⟨g,0,none⟩=some a) (h1:w.cell? ⟨g,1,none⟩=some b) (u v:Value) :
  ((w.setCell ⟨g,0,none⟩ u).setCell ⟨g,1,none⟩ v).cell? ⟨g,0,none⟩=some u∧((w.setCell ⟨g,0,none⟩ u).setCell ⟨g,1,none⟩ v).cell? ⟨g,1,none⟩=some v:=by
 have e01:(⟨g,0,none⟩:Addr) ≠ ⟨g,1,none⟩:=fun e => by injection e with _ e; cases e
 have k1:(w.setCell ⟨g,0,none⟩ u).cell? ⟨g,1,none⟩=some b:=by rw [World.cell?_setCell_other _ _ _ _ e01]; exact h1
 refine ⟨?_,World.cell?_setCell_same _ _ _ k1⟩
 rw [World.cell?_setCell_other _ _ _ _ (Ne.symm e01)]; exact World.cell?_setCell_same _ _ _ h0
theorem strD_snoc {d:List DimT} {x:DimT} (h:StrD d) (hx:x.name.length≤9223372036854775807):StrD (d ++ [x]):=fun y hy => by
 rcases List.mem_append.1 hy with hy | hy
 ·exact h y hy
 ·simp only [List.mem_singleton] at hy; subst hy; exact hx
theorem strA_snoc {d:List AttrT} {x:AttrT} (h:StrA d) (hx:x.name.length≤9223372036854775807):StrA (d ++ [x]):=fun y hy => by
 rcases List.mem_append.1 hy with hy | hy
 ·exact h y hy
 ·simp only [List.mem_singleton] at hy; subst hy; exact hx
theorem below_res {w w1:World} (h:Below w.heap.size w w1) (x y t:Value):Below w.heap.size w (((w1.setCell ⟨w.heap.size,0,none⟩ x).setCell ⟨w.heap.size,1,none⟩ y).setCell ⟨w.heap.size,2,none⟩ t) :=
 ((h.setCell (p:=⟨w.heap.size,0,none⟩) (Nat.le_refl _) _).setCell (p:=⟨w.heap.size,1,none⟩) (Nat.le_refl _) _).setCell (p:=⟨w.heap.size,2,none⟩) (Nat.le_refl _) _
set_option maxHeartbeats 16000000 in
set_option maxRecDepth 100000 in
theorem parseT_any (s:List UInt8) (w:World) (hg:Gl w) (hl:s.length≤20000):Calls Tryz.prog 9 #[strV s] w (RetAeT (readA s) w):=by
 obtain ⟨j1,hj1,hy1,hz1,ht1⟩:=info_parts infoDimC
 obtain ⟨j2,hj2,hy2,hz2,ht2⟩:=info_parts infoAttrC
 obtain ⟨j3,hj3,hy3,hz3,ht3⟩:=info_parts infoCell
 have C1:=Lib.hid (fun w1 => sufS_any s [10] w1 hl)
 obtain ⟨T,hT⟩:∃ T,T=Lib.trimSuffix s [10]:=⟨_,rfl⟩
 obtain ⟨tb,htb⟩:∃ tb,tb=Lib.hasSuffix s [10]:=⟨_,rfl⟩
 have hTl:T.length≤20000:=by rw [hT]; have:=trimS_len s [10]; omega
 obtain ⟨L,hL⟩:∃ L,L=splitL 10 T:=⟨_,rfl⟩
 have C2:Hid (∀ w1,Below w.heap.size w w1→Calls Tryz.prog 41 #[strV T,strV [10]] w1 (RetSp L w1)):=fun w1 hb => by
  rw [hL]; exact splitS_any T 10 w1 (hg.ml.later hb) hTl
 have HLL:Hid (L.length≤20001):=by show _≤_; rw [hL]; have:=splitL_len 10 T; omega
 have hLp:∀ x ∈ L,x.length≤20000:=fun x hx => by have:=splitL_part 10 T x (by rw [← hL]; exact hx); omega
 have HLP:=Lib.hid hLp
 have CD:Hid (∀ x ∈ L,∀ w1,Below w.heap.size w w1→Calls Tryz.prog 43 #[strV (Lib.trimPrefix x dimP)] w1 (RetDi (Lib.trimPrefix x dimP) w1)):=fun x hx w1 hb =>
  dimension_any _ w1 (hg.later hb) (by have:=trimP_len x dimP; have:=hLp x hx; omega)
 have CA:Hid (∀ x ∈ L,∀ w1,Below w.heap.size w w1→Calls Tryz.prog 44 #[strV (Lib.trimPrefix x attrP)] w1 (RetAq (Lib.trimPrefix x attrP) w1)):=fun x hx w1 hb =>
  attribute_any _ w1 (hg.later hb) (by have:=trimP_len x attrP; have:=hLp x hx; omega)
 have CC:Hid (∀ x ∈ L,∀ w1,Below w.heap.size w w1→Calls Tryz.prog 45 #[strV x] w1 (RetCg (cellO x) w1)):=fun x hx w1 hb =>
  cellOf_any x w1 (hg.later hb) (hLp x hx)
 obtain ⟨O,hO⟩:∃ O,O=readA s:=⟨_,rfl⟩
 rw [← hO]
 have HO:Hid (tb=false→O=none):=fun h => by
  rw [hO,readA_parse]
  unfold parseE
  rw [← htb,h,if_neg (by decide)]
 have HO2:Hid (tb=true→O=okX (parseF ⟨[],[],[]⟩ L)):=fun h => by
  rw [hO,readA_ok]
  unfold parseE
  rw [← htb,h,if_pos rfl,hL,hT]
 rw [← hT,← htb] at C1
 obtain ⟨W0,hW0,hb0,hs0,hx0⟩:=blk_at w [.slice none 0 0,.slice none 0 0,.slice none 0 0] 26
 have HB0:=Lib.hid hb0
 have HX0:=Lib.hid hx0
 have HS0:=Lib.hid hs0
 clear hg hl hT htb hTl hL hLp hO hb0 hx0 hs0
 go_enter Tryz.func9,Tryz.ntmps9
 let KF:(Ending→World→Prop)→Exit→Act→World→Prop:=bodyPost Tryz.prog Tryz.f9
 go_upto_region 1 with (fail)
 rw [← hW0]
 clear hW0
 go_wp2_with fail
 refine (C1.out W0).mono ?_
 rintro e w1 ⟨rfl,hw1⟩
 subst w1
 clear C1
 cases tb with
 | false =>
  have HR:=Lib.hid (HO.out rfl)
  obtain ⟨x,xf,xt⟩:=HX0.out W0 (Below.refl _ _)
  have r0:=x 0 _ rfl
  have r1:=x 1 _ rfl
  have r2:=x 2 _ rfl
  have f0:=xf 0
  have f1:=xf 1
  have f2:=xf 2
  clear x xf xt HX0 HO HO2 CD CA CC C2
  go_wp2
  refine bodyPost_ret (by simp [results,Tryz.results9,go_sem,r0,r1,r2]; try rfl) rfl ?_
  exact .inr ⟨HR.out,rfl,below_res HB0.out _ _ _⟩
 | true =>
  have HR:=Lib.hid (HO2.out rfl)
  have HM1:=Lib.hid (MakA.start W0)
  obtain ⟨W1,hW1⟩:∃ W1,W1=W0.alloc (.cells #[.slice none 0 0,.slice none 0 0,.slice none 0 0] 26):=⟨_,rfl⟩
  rw [← hW1] at HM1
  have HB1:Hid (Below W0.heap.size W0 W1):=by rw [hW1]; exact below_alloc _ _
  clear HO HO2
  go_upto_region 5 with (fail)
  rw [← hW1]
  clear hW1
  go_wp2_with fail
  refine (C2.out _ (below_keep HB0.out HB1.out)).mono ?_
  rintro e w2 ⟨v,rfl,hsv,hb⟩
  have HSV:=Lib.hid hsv
  obtain ⟨sa,sc,rfl,-⟩:=hsv.list.shape
  have hg0:w.heap.size<W0.heap.size:=HS0.out
  have HM2:=Lib.hid (HM1.out.later hb)
  have HB2:=Lib.hid (below_keep HB1.out hb)
  have hll:L.length≤20001:=HLL.out
  clear hsv hb C2 HM1
  go_wp2
  go_loopw [28] (fun iv wr => ∃ (j:Nat) (v1 v2 v3:Value) (x:ArrT),j≤L.length∧iv=.int .i64 (j:Nat)∧Hid (x.dims.length≤j∧x.attrs.length≤j∧x.cells.length≤j)∧Hid (parseF ⟨[],[],[]⟩ L=parseF x (L.drop j))∧Hid (StrD x.dims∧StrA x.attrs)∧MakA W0.heap.size W0.heap.size wr v1 v2 v3 x∧Below W0.heap.size W0 wr∧StrT wr (.slice sa L.length sc) L) (fun iv _ => L.length - (intOf iv).toNat)
  case atStart => exact ⟨0,_,_,_,⟨[],[],[]⟩,Nat.zero_le _,rfl,⟨Nat.le_refl _,Nat.le_refl _,Nat.le_refl _⟩,rfl,⟨(fun y hy => by cases hy),(fun y hy => by cases hy)⟩,HM2.out,HB2.out,HSV.out⟩
  case round =>
   obtain ⟨j,v1,v2,v3,x,hj,rfl,HLN,HPF,HST,hmk,hb,hst⟩:=hrel
   have HMK:=Lib.hid hmk
   have HB:=Lib.hid hb
   have HSS:=Lib.hid hst
   have HBW:=Lib.hid (below_keep HB0.out hb)
   obtain ⟨a1,n1,e1,-⟩:=(hmk.dm.list cellw_Dim).shape
   obtain ⟨a2,n2,e2,-⟩:=(hmk.at'.list cellw_Attr).shape
   obtain ⟨a3,n3,e3,-⟩:=hmk.ce.cells.shape
   subst e1 e2 e3
   by_cases hlt:j<L.length
   ·obtain ⟨gs,os,l,ea,hx,hr⟩:=hst.list.at j hlt
    subst ea
    unfold StrR at hr
    rw [Nat.mul_one] at hr
    have hml:=List.mem_of_getElem? hx
    have HML:=Lib.hid hml
    have CP1:=Lib.hid (fun w1 => preS_any l dimP w1)
    have CP2:=Lib.hid (fun w1 => preS_any l attrP w1)
    have hpf:=HPF.out
    rw [drop_cons hx,parseF] at hpf
    have HPQ:=Lib.hid hpf
    obtain ⟨d1,hd1⟩:∃ d1,Lib.hasPrefix l dimP=d1:=⟨_,rfl⟩
    obtain ⟨d2,hd2⟩:∃ d2,Lib.hasPrefix l attrP=d2:=⟨_,rfl⟩
    rw [hd1] at CP1 HPQ
    rw [hd2] at CP2 HPQ
    obtain ⟨q1,hq1⟩:∃ q1,q1=Lib.trimPrefix l dimP:=⟨_,rfl⟩
    obtain ⟨q2,hq2⟩:∃ q2,q2=Lib.trimPrefix l attrP:=⟨_,rfl⟩
    have CDl:=Lib.hid (CD.out l hml)
    have CAl:=Lib.hid (CA.out l hml)
    have CCl:=Lib.hid (CC.out l hml)
    rw [← hq1] at CP1 HPQ CDl
    rw [← hq2] at CP2 HPQ CAl
    have HQL:Hid (q1.length≤20000∧q2.length≤20000):=by
     have h1:=trimP_len l dimP
     have h2:=trimP_len l attrP
     have h3:=HLP.out l hml
     rw [← hq1] at h1
     rw [← hq2] at h2
     show _∧_
     omega
    have HI:Hid (j+1≤L.length∧L.length - (j+1)<L.length - j):=by show _∧_; omega
    have b0:(0:Int)≤(j:Int):=by omega
    have b1:(j:Int)<(L.length:Int):=by omega
    have c0:=hmk.c0
    have c1:=hmk.c1
    have c2:=hmk.c2
    clear hj hx hmk hb hst hlt hml hpf hd1 hd2 hq1 hq2 HPF
    go_wp2_with fail
    refine (CP1.out wr).mono ?_
    rintro e w3 ⟨rfl,hw3⟩
    subst w3
    clear CP1
    have hcase:(d1=true∧x.attrs=[]) ∨ (¬ (d1=true∧x.attrs=[])):=Classical.em _
    rcases hcase with ⟨rfl,hxa⟩ | hnc
    ·have HXA:=Lib.hid hxa
     have t1:((x.attrs.length:Int) == 0)=true:=by rw [hxa]; rfl
     clear hxa
     obtain ⟨W3,hW3,hb3,hs3,hx3⟩:=blk_at wr [.string ⟨#[]⟩,.int .i64 0,.int .i64 0] 74
     have HB3:=Lib.hid hb3
     have HX3:=Lib.hid hx3
     clear hb3 hs3 hx3 CP2 CAl CCl
     go_upto_region 12 with (fail)
     rw [← hW3]
     clear hW3 c0 c1 c2 hr
     go_wp2_with fail
     refine (CDl.out W3 (below_keep HBW.out HB3.out)).mono ?_
     rintro e w4 ⟨⟨nm,lo,hi⟩,rfl,hd,hb4⟩
     obtain ⟨A,hA⟩:∃ A,(dimO q1).isSome=A:=⟨_,rfl⟩
     rw [hA]
     have HD:=Lib.hid (And.intro hd hA)
     obtain ⟨z,zf,zt⟩:=HX3.out w4 hb4
     have z0:=z 0 _ rfl
     have z1:=z 1 _ rfl
     have z2:=z 2 _ rfl
     have g0:=zf 0
     have g1:=zf 1
     have g2:=zf 2
     obtain ⟨W4,hW4⟩:∃ W4,W4=((w4.setCell ⟨wr.heap.size,0,none⟩ (strV nm)).setCell ⟨wr.heap.size,1,none⟩ (.int .i64 lo)).setCell ⟨wr.heap.size,2,none⟩ (.int .i64 hi):=⟨_,rfl⟩
     have HB4:Hid (Below wr.heap.size wr W4):=by
      rw [hW4]
      exact (((below_keep HB3.out hb4).setCell (p:=⟨wr.heap.size,0,none⟩) (Nat.le_refl _) _).setCell (p:=⟨wr.heap.size,1,none⟩) (Nat.le_refl _) _).setCell (p:=⟨wr.heap.size,2,none⟩) (Nat.le_refl _) _
     have HY:Hid (W4.cell? ⟨wr.heap.size,0,none⟩=some (strV nm)∧W4.cell? ⟨wr.heap.size,1,none⟩=some (.int .i64 lo)∧W4.cell? ⟨wr.heap.size,2,none⟩=some (.int .i64 hi)):=by rw [hW4]; exact set3_at z0 z1 z2 _ _ _
     clear hd hA hb4 z zf zt HX3 CDl
     go_upto_region 13 with (fail)
     rw [← hW4]
     clear hW4 z0 z1 z2 g0 g1 g2
     obtain ⟨y0,y1,y2⟩:=HY.out
     have HM4:=Lib.hid (HMK.out.later HB4.out)
     have HS4:=Lib.hid (HSS.out.later HB4.out)
     have hrow:=HM4.out.dm.row
     have c0:=HM4.out.c0
     have hw4:W0.heap.size≤W4.heap.size:=Nat.le_trans HB.out.size HB4.out.size
     have hln:=HLN.out.1
     have hjL:=HI.out.1
     go_wp2_with (at_builtin; refine wpList_append_lies _ (by rfl) _ _ 22 (by rfl) W0.heap.size 74 j1 (.agg #[.string ⟨#[]⟩,.int .i64 0,.int .i64 0]) 3 32 Tryz.underlying22 hj1 hy1 hz1 ht1 rfl (by decide) _ x.dims.length (x.dims.flatMap cellsDim) (by rfl) (hrow.alloc _) ⟨W4.heap.size,0,none⟩ 1 1 [strV nm,.int .i64 lo,.int .i64 hi] (by rfl) (by rfl) (lit_at W4 [strV nm,.int .i64 lo,.int .i64 hi] 74) (by simp [Value.oneCell']) (by omega) (by unfold maxLen; omega) (by omega) (by simp; omega) (W4.heap.size+1) (by simp) ?_)
     intro g7 cp7 w7 hown hgrow hat hlt6
     have ho:OwD W0.heap.size w7 (.slice (some ⟨g7,0,none⟩) (x.dims.length+1) cp7) (x.dims ++ [⟨nm,lo,hi⟩]):=OwR.snoc hown
     have HMD:=Lib.hid ((HM4.out.later (below_alloc W4 (.cells #[strV nm,.int .i64 lo,.int .i64 hi] 74))).setD hgrow ho)
     have HB7:Hid (Below W0.heap.size W0 w7):=(below_keep (below_keep HB.out HB4.out) (below_alloc W4 (.cells #[strV nm,.int .i64 lo,.int .i64 hi] 74))).grown hgrow (by simp; omega) (fun k e => (hrow.lt k e).1)
     obtain ⟨W8,hW8⟩:∃ W8,W8=w7.setCell ⟨W0.heap.size,0,none⟩ (.slice (some ⟨g7,0,none⟩) (x.dims.length+1) cp7):=⟨_,rfl⟩
     have HB8:Hid (Below W0.heap.size W0 W8):=by rw [hW8]; exact HB7.out.setCell (p:=⟨W0.heap.size,0,none⟩) (Nat.le_refl _) _
     have HM8:Hid (MakA W0.heap.size W0.heap.size W8 (.slice (some ⟨g7,0,none⟩) (x.dims.length+1) cp7) (.slice a2 x.attrs.length n2) (.slice a3 x.cells.length n3) ⟨x.dims ++ [⟨nm,lo,hi⟩],x.attrs,x.cells⟩):=by rw [hW8]; exact HMD.out.out
     have HS8:Hid (StrT W8 (.slice (some ⟨gs,os,none⟩) L.length sc) L):=by
      rw [hW8]
      exact ((HS4.out.later (below_alloc W4 (.cells #[strV nm,.int .i64 lo,.int .i64 hi] 74))).kept hgrow (fun r e => (HM4.out.later (below_alloc W4 _)).dm.tag r e) (by decide)).set HMD.out.tg (by decide) _ _
     have d0:=HMD.out.c
     have e0:=HMD.out.f
     clear hown hgrow hat hlt6 ho hrow c0 y0 y1 y2 hln hjL hw4
     go_upto_region 22 with (fail)
     rw [← hW8]
     clear hW8 d0 e0 HMD
     cases A with
     | false =>
      have HON:Hid (O=none):=by
       show _=_
       rw [HR.out,HPQ.out,if_pos (show True∧x.attrs=[] from ⟨trivial,HXA.out⟩),(show dimO q1=none by simpa using HD.out.2)]
       rfl
      obtain ⟨y,yf,yt⟩:=HX0.out W8 HB8.out
      have r0:=y 0 _ rfl
      have r1:=y 1 _ rfl
      have r2:=y 2 _ rfl
      have f0:=yf 0
      have f1:=yf 1
      have f2:=yf 2
      clear y yf yt HX0 HR HPQ CC CD CA
      go_wp2
      refine bodyPost_ret (by simp [results,Tryz.results9,go_sem,r0,r1,r2]; try rfl) rfl ?_
      exact .inr ⟨HON.out,rfl,below_res (below_keep HB0.out HB8.out) _ _ _⟩
     | true =>
      have HPN:Hid (parseF ⟨[],[],[]⟩ L=parseF ⟨x.dims ++ [DimT.mk nm lo hi],x.attrs,x.cells⟩ (L.drop (j+1))):=by
       show _=_
       rw [HPQ.out,if_pos (show True∧x.attrs=[] from ⟨trivial,HXA.out⟩),(show dimO q1=some ⟨nm,lo,hi⟩ from (by have h1:=HD.out.2; have h2:=HD.out.1; cases h:dimO q1 with | none => rw [h] at h1; cases h1 | some y => rw [h2 y h]))]
      have HLN2:Hid ((x.dims ++ ([⟨nm,lo,hi⟩]:List DimT)).length≤j+1∧x.attrs.length≤j+1∧x.cells.length≤j+1):=by show _∧_; have:=HLN.out; simp only [List.length_append,List.length_singleton]; omega
      have HST2:Hid (StrD (x.dims ++ ([⟨nm,lo,hi⟩]:List DimT))∧StrA x.attrs):=⟨strD_snoc HST.out.1 (by have h1:=HD.out.2; have h2:=HD.out.1; cases h:dimO q1 with | none => rw [h] at h1; cases h1 | some y => rw [← h2 y h]; have:=dimO_name h; have:=HQL.out.1; omega),HST.out.2⟩
      clear HR HPQ HX0 CC CD CA
      go_wp2
      exact ⟨⟨j+1,_,_,_,⟨x.dims ++ [DimT.mk nm lo hi],x.attrs,x.cells⟩,HI.out.1,by go_num,HLN2.out,HPN.out,HST2.out,HM8.out,HB8.out,HS8.out⟩,HI.out.2⟩
    ·have HNC:=Lib.hid hnc
     have hcase:d1=false ∨ (d1=true∧((x.attrs.length:Int) == 0)=false):=by
      cases d1 with
      | false => exact .inl rfl
      | true => exact .inr ⟨rfl,by rw [beq_eq_false_iff_ne]; intro e; exact hnc ⟨rfl,List.length_eq_zero_iff.1 (by omega)⟩⟩
     clear hnc
     rcases hcase with rfl | ⟨rfl,t1⟩
     all_goals
      go_wp2_with fail
      refine (CP2.out wr).mono ?_
      rintro e w3 ⟨rfl,hw3⟩
      subst w3
      clear CP2
      have hcase:(d2=true∧x.cells=[]) ∨ (¬ (d2=true∧x.cells=[])):=Classical.em _
      rcases hcase with ⟨rfl,hxc⟩ | hnd
      ·have HXC:=Lib.hid hxc
       have t2:((x.cells.length:Int) == 0)=true:=by rw [hxc]; rfl
       clear hxc
       obtain ⟨W3,hW3,hb3,hs3,hx3⟩:=blk_at wr [.string ⟨#[]⟩,.int .i64 0] 81
       have HB3:=Lib.hid hb3
       have HX3:=Lib.hid hx3
       clear hb3 hs3 hx3 CCl
       go_upto_region 17 with (fail)
       rw [← hW3]
       clear hW3 c0 c1 c2 hr
       go_wp2_with fail
       refine (CAl.out W3 (below_keep HBW.out HB3.out)).mono ?_
       rintro e w4 ⟨⟨nm,ty⟩,rfl,hd,hb4⟩
       obtain ⟨A,hA⟩:∃ A,(attrO q2).isSome=A:=⟨_,rfl⟩
       rw [hA]
       have HD:=Lib.hid (And.intro hd hA)
       obtain ⟨z,zf,zt⟩:=HX3.out w4 hb4
       have z0:=z 0 _ rfl
       have z1:=z 1 _ rfl
       have g0:=zf 0
       have g1:=zf 1
       obtain ⟨W4,hW4⟩:∃ W4,W4=(w4.setCell ⟨wr.heap.size,0,none⟩ (strV nm)).setCell ⟨wr.heap.size,1,none⟩ (.int .i64 ty):=⟨_,rfl⟩
       have HB4:Hid (Below wr.heap.size wr W4):=by
        rw [hW4]
        exact ((below_keep HB3.out hb4).setCell (p:=⟨wr.heap.size,0,none⟩) (Nat.le_refl _) _).setCell (p:=⟨wr.heap.size,1,none⟩) (Nat.le_refl _) _
       have HY:Hid (W4.cell? ⟨wr.heap.size,0,none⟩=some (strV nm)∧W4.cell? ⟨wr.heap.size,1,none⟩=some (.int .i64 ty)):=by rw [hW4]; exact set2_at z0 z1 _ _
       clear hd hA hb4 z zf zt HX3 CAl
       go_upto_region 18 with (fail)
       rw [← hW4]
       clear hW4 z0 z1 g0 g1
       obtain ⟨y0,y1⟩:=HY.out
       have HM4:=Lib.hid (HMK.out.later HB4.out)
       have HS4:=Lib.hid (HSS.out.later HB4.out)
       have hrow:=HM4.out.at'.row
       have c1:=HM4.out.c1
       have hw4:W0.heap.size≤W4.heap.size:=Nat.le_trans HB.out.size HB4.out.size
       have hln:=HLN.out.2.1
       have hjL:=HI.out.1
       go_wp2_with (at_builtin; refine wpList_append_lies _ (by rfl) _ _ 23 (by rfl) W0.heap.size 81 j2 (.agg #[.string ⟨#[]⟩,.int .i64 0]) 2 24 Tryz.underlying23 hj2 hy2 hz2 ht2 rfl (by decide) _ x.attrs.length (x.attrs.flatMap cellsAttr) (by rfl) (hrow.alloc _) ⟨W4.heap.size,0,none⟩ 1 1 [strV nm,.int .i64 ty] (by rfl) (by rfl) (lit_at W4 [strV nm,.int .i64 ty] 81) (by simp [Value.oneCell']) (by omega) (by unfold maxLen; omega) (by omega) (by simp; omega) (W4.heap.size+1) (by simp) ?_)
       intro g7 cp7 w7 hown hgrow hat hlt6
       have ho:OwA W0.heap.size w7 (.slice (some ⟨g7,0,none⟩) (x.attrs.length+1) cp7) (x.attrs ++ [⟨nm,ty⟩]):=OwR.snoc hown
       have HMD:=Lib.hid ((HM4.out.later (below_alloc W4 (.cells #[strV nm,.int .i64 ty] 81))).setA hgrow ho)
       have HB7:Hid (Below W0.heap.size W0 w7):=(below_keep (below_keep HB.out HB4.out) (below_alloc W4 (.cells #[strV nm,.int .i64 ty] 81))).grown hgrow (by simp; omega) (fun k e => (hrow.lt k e).1)
       obtain ⟨W8,hW8⟩:∃ W8,W8=w7.setCell ⟨W0.heap.size,1,none⟩ (.slice (some ⟨g7,0,none⟩) (x.attrs.length+1) cp7):=⟨_,rfl⟩
       have HB8:Hid (Below W0.heap.size W0 W8):=by rw [hW8]; exact HB7.out.setCell (p:=⟨W0.heap.size,1,none⟩) (Nat.le_refl _) _
       have HM8:Hid (MakA W0.heap.size W0.heap.size W8 (.slice a1 x.dims.length n1) (.slice (some ⟨g7,0,none⟩) (x.attrs.length+1) cp7) (.slice a3 x.cells.length n3) ⟨x.dims,x.attrs ++ [⟨nm,ty⟩],x.cells⟩):=by rw [hW8]; exact HMD.out.out
       have HS8:Hid (StrT W8 (.slice (some ⟨gs,os,none⟩) L.length sc) L):=by
        rw [hW8]
        exact ((HS4.out.later (below_alloc W4 (.cells #[strV nm,.int .i64 ty] 81))).kept hgrow (fun r e => (HM4.out.later (below_alloc W4 _)).at'.tag r e) (by decide)).set HMD.out.tg (by decide) _ _
       have d0:=HMD.out.c
       have e0:=HMD.out.f
       clear hown hgrow hat hlt6 ho hrow c1 y0 y1 hln hjL hw4
       go_upto_region 22 with (fail)
       rw [← hW8]
       clear hW8 d0 e0 HMD
       cases A with
       | false =>
        have HON:Hid (O=none):=by
         show _=_
         rw [HR.out,HPQ.out,if_neg HNC.out,if_pos (show True∧x.cells=[] from ⟨trivial,HXC.out⟩),(show attrO q2=none by simpa using HD.out.2)]
         rfl
        obtain ⟨y,yf,yt⟩:=HX0.out W8 HB8.out
        have r0:=y 0 _ rfl
        have r1:=y 1 _ rfl
        have r2:=y 2 _ rfl
        have f0:=yf 0
        have f1:=yf 1
        have f2:=yf 2
        clear y yf yt HX0 HR HPQ CC CD CA
        go_wp2
        refine bodyPost_ret (by simp [results,Tryz.results9,go_sem,r0,r1,r2]; try rfl) rfl ?_
        exact .inr ⟨HON.out,rfl,below_res (below_keep HB0.out HB8.out) _ _ _⟩
       | true =>
        have HPN:Hid (parseF ⟨[],[],[]⟩ L=parseF ⟨x.dims,x.attrs ++ [AttrT.mk nm ty],x.cells⟩ (L.drop (j+1))):=by
         show _=_
         rw [HPQ.out,if_neg HNC.out,if_pos (show True∧x.cells=[] from ⟨trivial,HXC.out⟩),(show attrO q2=some ⟨nm,ty⟩ from (by have h1:=HD.out.2; have h2:=HD.out.1; cases h:attrO q2 with | none => rw [h] at h1; cases h1 | some y => rw [h2 y h]))]
        have HLN2:Hid (x.dims.length≤j+1∧(x.attrs ++ ([⟨nm,ty⟩]:List AttrT)).length≤j+1∧x.cells.length≤j+1):=by show _∧_; have:=HLN.out; simp only [List.length_append,List.length_singleton]; omega
        have HST2:Hid (StrD x.dims∧StrA (x.attrs ++ ([⟨nm,ty⟩]:List AttrT))):=⟨HST.out.1,strA_snoc HST.out.2 (by have h1:=HD.out.2; have h2:=HD.out.1; cases h:attrO q2 with | none => rw [h] at h1; cases h1 | some y => rw [← h2 y h]; have:=attrO_name h; have:=HQL.out.2; omega)⟩
        clear HR HPQ HX0 CC CD CA
        go_wp2
        exact ⟨⟨j+1,_,_,_,⟨x.dims,x.attrs ++ [AttrT.mk nm ty],x.cells⟩,HI.out.1,by go_num,HLN2.out,HPN.out,HST2.out,HM8.out,HB8.out,HS8.out⟩,HI.out.2⟩
      ·have HND:=Lib.hid hnd
       have hcase:d2=false ∨ (d2=true∧((x.cells.length:Int) == 0)=false):=by
        cases d2 with
        | false => exact .inl rfl
        | true => exact .inr ⟨rfl,by rw [beq_eq_false_iff_ne]; intro e; exact hnd ⟨rfl,List.length_eq_zero_iff.1 (by omega)⟩⟩
       clear hnd
       rcases hcase with rfl | ⟨rfl,t2⟩
       all_goals
        obtain ⟨W3,hW3,hb3,hs3,hx3⟩:=blk_at wr [.slice none 0 0,.slice none 0 0] 62
        have HB3:=Lib.hid hb3
        have HX3:=Lib.hid hx3
        clear hb3 hs3 hx3 CDl CAl
        go_upto_region 20 with (fail)
        rw [← hW3]
        clear hW3 c0 c1 c2 hr
        go_wp2_with fail
        refine (CCl.out W3 (below_keep HBW.out HB3.out)).mono ?_
        rintro e w4 ⟨u1,u2,c,rfl,hce,hd,hb4⟩
        obtain ⟨A,hA⟩:∃ A,(cellO l).isSome=A:=⟨_,rfl⟩
        rw [hA]
        have HD:=Lib.hid (And.intro hd hA)
        have hw3:W0.heap.size≤W3.heap.size:=Nat.le_trans HB.out.size HB3.out.size
        obtain ⟨b1,m1,k1,-⟩:=hce.i.shape
        obtain ⟨b2,m2,k2,-⟩:=hce.v.shape
        subst k1 k2
        obtain ⟨z,zf,zt⟩:=HX3.out w4 hb4
        have z0:=z 0 _ rfl
        have z1:=z 1 _ rfl
        have g0:=zf 0
        have g1:=zf 1
        obtain ⟨W4,hW4⟩:∃ W4,W4=(w4.setCell ⟨wr.heap.size,0,none⟩ (.slice b1 c.co.length m1)).setCell ⟨wr.heap.size,1,none⟩ (.slice b2 c.vals.length m2):=⟨_,rfl⟩
        have HB4:Hid (Below wr.heap.size wr W4):=by
         rw [hW4]
         exact ((below_keep HB3.out hb4).setCell (p:=⟨wr.heap.size,0,none⟩) (Nat.le_refl _) _).setCell (p:=⟨wr.heap.size,1,none⟩) (Nat.le_refl _) _
        have HY:Hid (W4.cell? ⟨wr.heap.size,0,none⟩=some (.slice b1 c.co.length m1)∧W4.cell? ⟨wr.heap.size,1,none⟩=some (.slice b2 c.vals.length m2)):=by rw [hW4]; exact set2_at z0 z1 _ _
        have HCE:Hid (CeO W0.heap.size W4 (.slice b1 c.co.length m1) (.slice b2 c.vals.length m2) c):=by
         rw [hW4]
         exact ((hce.grown ((grown_setG w4 wr.heap.size 0 _).trans (grown_setG _ wr.heap.size 1 _)) (fun r e => by cases e; exact not_tag zt (by decide) (by decide))).base hw3)
        clear hd hA hb4 z zf zt HX3 CCl hce hw3
        go_upto_region 21 with (fail)
        rw [← hW4]
        clear hW4 z0 z1 g0 g1
        obtain ⟨y0,y1⟩:=HY.out
        have HM4:=Lib.hid (HMK.out.later HB4.out)
        have HS4:=Lib.hid (HSS.out.later HB4.out)
        obtain ⟨us,hul,hrow,hux⟩:=HM4.out.ce.ex
        have HUX:=Lib.hid (And.intro hul hux)
        have c2:=HM4.out.c2
        have hw4:W0.heap.size≤W4.heap.size:=Nat.le_trans HB.out.size HB4.out.size
        have hln:=HLN.out.2.2
        have hjL:=HI.out.1
        clear hul hux
        go_wp2_with (at_builtin; refine wpList_append_lies _ (by rfl) _ _ 24 (by rfl) W0.heap.size 62 j3 (.agg #[.slice none 0 0,.slice none 0 0]) 2 48 Tryz.underlying24 hj3 hy3 hz3 ht3 rfl (by decide) _ x.cells.length (us.flatMap fun u => [u.1,u.2]) (by rfl) (hrow.alloc _) ⟨W4.heap.size,0,none⟩ 1 1 [.slice b1 c.co.length m1,.slice b2 c.vals.length m2] (by rfl) (by rfl) (lit_at W4 [.slice b1 c.co.length m1,.slice b2 c.vals.length m2] 62) (by simp [Value.oneCell']) (by omega) (by unfold maxLen; omega) (by omega) (by simp; omega) (W4.heap.size+1) (by simp) ?_)
        intro g7 cp7 w7 hown hgrow hat hlt6
        have hba:=below_alloc W4 (.cells #[.slice b1 c.co.length m1,.slice b2 c.vals.length m2] 62)
        have ho:CellsO W0.heap.size w7 (.slice (some ⟨g7,0,none⟩) (x.cells.length+1) cp7) (x.cells ++ [c]):=CellsO.snoc HUX.out.1 (hrow.alloc _) (fun i c u hc hu => (HUX.out.2 i c u hc hu).later hba) hown hgrow (HCE.out.later hba)
        have HMD:=Lib.hid ((HM4.out.later hba).setC hgrow ho)
        have HB7:Hid (Below W0.heap.size W0 w7):=(below_keep (below_keep HB.out HB4.out) hba).grown hgrow (by simp; omega) (fun k e => (hrow.lt k e).1)
        obtain ⟨W8,hW8⟩:∃ W8,W8=w7.setCell ⟨W0.heap.size,2,none⟩ (.slice (some ⟨g7,0,none⟩) (x.cells.length+1) cp7):=⟨_,rfl⟩
        have HB8:Hid (Below W0.heap.size W0 W8):=by rw [hW8]; exact HB7.out.setCell (p:=⟨W0.heap.size,2,none⟩) (Nat.le_refl _) _
        have HM8:Hid (MakA W0.heap.size W0.heap.size W8 (.slice a1 x.dims.length n1) (.slice a2 x.attrs.length n2) (.slice (some ⟨g7,0,none⟩) (x.cells.length+1) cp7) ⟨x.dims,x.attrs,x.cells ++ [c]⟩):=by rw [hW8]; exact HMD.out.out
        have HS8:Hid (StrT W8 (.slice (some ⟨gs,os,none⟩) L.length sc) L):=by
         rw [hW8]
         exact ((HS4.out.later hba).kept hgrow (fun r e => (HM4.out.later hba).ce.tag r e) (by decide)).set HMD.out.tg (by decide) _ _
        have d0:=HMD.out.c
        have e0:=HMD.out.f
        clear hown hgrow hat hlt6 ho hrow c2 y0 y1 hln hjL hw4 hba
        go_upto_region 22 with (fail)
        rw [← hW8]
        clear hW8 d0 e0 HMD
        cases A with
        | false =>
         have HON:Hid (O=none):=by
          show _=_
          rw [HR.out,HPQ.out,if_neg HNC.out,if_neg HND.out,(show cellO l=none by simpa using HD.out.2)]
          rfl
         obtain ⟨y,yf,yt⟩:=HX0.out W8 HB8.out
         have r0:=y 0 _ rfl
         have r1:=y 1 _ rfl
         have r2:=y 2 _ rfl
         have f0:=yf 0
         have f1:=yf 1
         have f2:=yf 2
         clear y yf yt HX0 HR HPQ CC CD CA
         go_wp2
         refine bodyPost_ret (by simp [results,Tryz.results9,go_sem,r0,r1,r2]; try rfl) rfl ?_
         exact .inr ⟨HON.out,rfl,below_res (below_keep HB0.out HB8.out) _ _ _⟩
        | true =>
         have HPN:Hid (parseF ⟨[],[],[]⟩ L=parseF ⟨x.dims,x.attrs,x.cells ++ [c]⟩ (L.drop (j+1))):=by
          show _=_
          rw [HPQ.out,if_neg HNC.out,if_neg HND.out,(show cellO l=some c from (by have h1:=HD.out.2; have h2:=HD.out.1; cases h:cellO l with | none => rw [h] at h1; cases h1 | some y => rw [h2 y h]))]
         have HLN2:Hid (x.dims.length≤j+1∧x.attrs.length≤j+1∧(x.cells ++ [c]).length≤j+1):=by show _∧_; have:=HLN.out; simp only [List.length_append,List.length_singleton]; omega
         have HST2:Hid (StrD x.dims∧StrA x.attrs):=HST.out
         clear HR HPQ HX0 CC CD CA
         go_wp2
         exact ⟨⟨j+1,_,_,_,⟨x.dims,x.attrs,x.cells ++ [c]⟩,HI.out.1,by go_num,HLN2.out,HPN.out,HST2.out,HM8.out,HB8.out,HS8.out⟩,HI.out.2⟩
   ·obtain rfl:j=L.length:=by omega
    have hpf:=HPF.out
    rw [List.drop_length,parseF] at hpf
    have HFO:Hid (O=okX (some x)):=by show _=_; rw [HR.out,hpf]
    obtain ⟨E,hE⟩:∃ E,checkE x=E:=⟨_,rfl⟩
    have CK:=Lib.hid (checkA_any x _ _ _ wr hmk.arr HST.out.1 HST.out.2)
    rw [hE] at CK
    have HE:=Lib.hid hE
    have c0:=hmk.c0
    have c1:=hmk.c1
    have c2:=hmk.c2
    have b1:¬ (L.length:Int)<(L.length:Int):=by omega
    clear hj hmk hb hst hlt hpf hE HPF HR CC CD CA
    go_wp2_with fail
    refine CK.out.mono ?_
    rintro e w5 ⟨rfl,hb5⟩
    have HB5:=Lib.hid (below_keep HB.out hb5)
    have HM5:=Lib.hid (HMK.out.later hb5)
    obtain ⟨y,yf,yt⟩:=HX0.out w5 HB5.out
    have r0:=y 0 _ rfl
    have r1:=y 1 _ rfl
    have r2:=y 2 _ rfl
    have f0:=yf 0
    have f1:=yf 1
    have f2:=yf 2
    have HYT:=Lib.hid yt
    clear y yf yt HX0 hb5 CK c0 c1 c2
    by_cases hz:E=0
    ·subst hz
     have HOS:Hid (O=some x):=by show _=_; rw [HFO.out,okX,if_pos HE.out]
     have d0:=HM5.out.c0
     have d1:=HM5.out.c1
     have d2:=HM5.out.c2
     clear HFO
     go_wp2
     refine bodyPost_ret (by simp [results,Tryz.results9,go_sem,r0,r1,r2]; try rfl) rfl ?_
     exact .inl ⟨x,_,_,_,_,HOS.out,rfl,ArrO.set3 ⟨HM5.out.dm,HM5.out.at',HM5.out.ce⟩ HYT.out,below_res (below_keep HB0.out HB5.out) _ _ _⟩
    ·have hz':(E != 0)=true:=by rw [bne_iff_ne]; exact hz
     have HOS:Hid (O=none):=by show _=_; rw [HFO.out,okX,if_neg (by rw [HE.out]; exact hz)]
     clear HFO hz
     go_wp2
     refine bodyPost_ret (by simp [results,Tryz.results9,go_sem,r0,r1,r2]; try rfl) rfl ?_
     exact .inr ⟨HOS.out,rfl,below_res (below_keep HB0.out HB5.out) _ _ _⟩
end Go.Proofs.YtdbnebhehiiakaaGreatDoor
