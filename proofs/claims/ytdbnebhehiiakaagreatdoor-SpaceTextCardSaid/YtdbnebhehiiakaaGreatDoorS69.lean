/- Lemmas and contracts, each under its own condition: space.dimension, space.attribute: contracts. space.attribute: the contract. -/
import Derived.Deep.DeepCutAuto
import Derived.Test.YtdbnebhehiiakaaGreatDoorS16
import Derived.Test.YtdbnebhehiiakaaGreatDoorS75
namespace Go.Proofs.YtdbnebhehiiakaaGreatDoor
open Go.RowKit
theorem blk_at (w:World) (us:List Value) (T:TypeId):∃ W1,W1=w.alloc (.cells us.toArray T)∧Below w.heap.size w W1∧w.heap.size<W1.heap.size∧∀ w',Below W1.heap.size W1 w'→(∀ j u,us[j]? = some u→w'.cell? ⟨w.heap.size,j,none⟩=some u)∧(∀ j,w'.frozen? ⟨w.heap.size,j,none⟩=false)∧TagB w' w.heap.size T:=by
 refine ⟨_,rfl,below_alloc _ _,by simp,fun w' hb => ?_⟩
 have ht:TagB (w.alloc (.cells us.toArray T)) w.heap.size T:=⟨_,_,World.alloc_heap_new w _⟩
 refine ⟨fun j u hj => ?_,fun j => ?_,ht.kept (hb.block _ (by simp))⟩
 ·rw [hb.cell (p:=⟨w.heap.size,j,none⟩) (by simp),World.cell?_alloc_at _ _ _ _ rfl]
  simpa using hj
 ·rw [hb.frozen (p:=⟨w.heap.size,j,none⟩) (by simp)]
  exact World.frozen?_alloc_at _ _ _ _ rfl
theorem dimO_parts (s:List UInt8):(dimO s).isSome=((Lib.cut s [32]).2.2 && (Lib.cut (Lib.cut s [32]).2.1 [58]).2.2 && (intO (Lib.cut (Lib.cut s [32]).2.1 [58]).1).isSome && (hiO (Lib.cut (Lib.cut s [32]).2.1 [58]).2.1).isSome) ∧
  ∀ d,dimO s=some d→d.name=(Lib.cut s [32]).1∧intO (Lib.cut (Lib.cut s [32]).2.1 [58]).1=some d.lo∧hiO (Lib.cut (Lib.cut s [32]).2.1 [58]).2.1=some d.hi:=by
 unfold dimO
 generalize Lib.cut s [32]=p
 generalize Lib.cut p.2.1 [58]=q
 cases h1:intO q.1 with
 | none => simp
 | some lo =>
  cases h2:hiO q.2.1 with
  | none => simp
  | some hi =>
   cases h3:p.2.2 <;> cases h4:q.2.2 <;> simp
def RetDi (s:List UInt8) (w:World) (e:Ending) (w':World):Prop:=∃ d:DimT,e=.returned (.tuple #[.agg #[strV d.name,.int .i64 d.lo,.int .i64 d.hi],.bool (dimO s).isSome])∧(∀ x,dimO s=some x→x=d)∧Below w.heap.size w w'
theorem dim_end {s P1 P2 Q1 Q2:List UInt8} {pb qb A B:Bool} {n h:Int} {w w':World} (e1:Lib.cut s [32]=(P1,P2,pb)) (e2:Lib.cut P2 [58]=(Q1,Q2,qb)) (hA:(intO Q1).isSome=A) (hn:∀ m,intO Q1=some m→n=m) (hB:(hiO Q2).isSome=B) (hh:∀ m,hiO Q2=some m→h=m) (hb:Below w.heap.size w w') (x:Value) (hx:x=.bool (pb && qb && A && B)) :
  RetDi s w (.returned (.tuple #[.agg #[strV P1,.int .i64 n,.int .i64 h],x])) w':=by
 obtain ⟨k1,k2⟩:=dimO_parts s
 rw [e1] at k1 k2
 simp only at k1 k2
 rw [e2] at k1 k2
 simp only at k1 k2
 rw [hA,hB] at k1
 refine ⟨⟨P1,n,h⟩,by rw [hx,k1],fun d hd => ?_,hb⟩
 obtain ⟨m1,m2,m3⟩:=k2 d hd
 obtain ⟨a,b,c⟩:=d
 simp only at m1 m2 m3
 rw [m1,hn b m2,hh c m3]
set_option maxHeartbeats 3200000 in
set_option maxRecDepth 100000 in
theorem dimension_any (s:List UInt8) (w:World) (hg:Gl w) (hl:s.length≤20000):Calls Tryz.prog 43 #[strV s] w (RetDi s w):=by
 have HG:=Lib.hid hg
 obtain ⟨⟨P1,P2,pb⟩,e1⟩:∃ p,Lib.cut s [32]=p:=⟨_,rfl⟩
 obtain ⟨⟨Q1,Q2,qb⟩,e2⟩:∃ q,Lib.cut P2 [58]=q:=⟨_,rfl⟩
 have hcl:∀ (a b:List UInt8),(Lib.cut a b).1.length≤a.length∧(Lib.cut a b).2.1.length≤a.length:=fun a b => by
  unfold Lib.cut
  split
  ·simp only [List.length_take,List.length_drop]; omega
  ·simp
 have l2:P2.length≤20000:=by have:=(hcl s [32]).2; rw [e1] at this; simp only at this; omega
 have l3:Q1.length≤20000:=by have:=(hcl P2 [58]).1; rw [e2] at this; simp only at this; omega
 have l4:Q2.length≤20000:=by have:=(hcl P2 [58]).2; rw [e2] at this; simp only at this; omega
 have C1:Hid (∀ w1,Below w.heap.size w w1→Calls Tryz.prog 88 #[strV s,strV [32]] w1 (RetV' (.tuple #[strV P1,strV P2,.bool pb]) w1)):=fun w1 hb => by
  have:=cutS_any s [32] w1 (hg.ml.later hb) hl
  rwa [e1] at this
 have C2:Hid (∀ w1,Below w.heap.size w w1→Calls Tryz.prog 88 #[strV P2,strV [58]] w1 (RetV' (.tuple #[strV Q1,strV Q2,.bool qb]) w1)):=fun w1 hb => by
  have:=cutS_any P2 [58] w1 (hg.ml.later hb) l2
  rwa [e2] at this
 have C3:=Lib.hid (fun w1 (hb:Below w.heap.size w w1) => integer_any Q1 w1 (hg.later hb) l3)
 have C4:=Lib.hid (fun w1 (hb:Below w.heap.size w w1) => integer_any Q2 w1 (hg.later hb) l4)
 have HE:=Lib.hid (And.intro e1 e2)
 obtain ⟨W0,hW0,hb0,hs0,hx0⟩:=blk_at w [.string ⟨#[]⟩,.int .i64 0,.int .i64 0] 74
 have HB0:=Lib.hid hb0
 have HX0:=Lib.hid hx0
 have HS0:=Lib.hid hs0
 clear hg hl hcl l2 l3 l4 e1 e2 hb0 hx0 hs0
 go_enter Tryz.func43,Tryz.ntmps43
 go_upto_region 1 with (fail)
 rw [← hW0]
 clear hW0
 go_wp2_with fail
 refine (C1.out _ HB0.out).mono ?_
 rintro e w1 ⟨rfl,hb⟩
 have HB1:=Lib.hid hb
 clear hb C1
 go_wp2_with fail
 refine (C2.out _ (below_keep HB0.out HB1.out)).mono ?_
 rintro e w2 ⟨rfl,hb⟩
 have HB2:=Lib.hid (below_keep HB1.out hb)
 obtain ⟨W3,hW3,hb3,hs3,hx3⟩:=blk_at w2 [strV P1,.int .i64 0,.int .i64 1073741825] 74
 have HB3:=Lib.hid (below_keep HB2.out hb3)
 have HX3:=Lib.hid hx3
 have hg2:w.heap.size<w2.heap.size:=Nat.lt_of_lt_of_le HS0.out HB2.out.size
 clear hb hb3 hs3 hx3 C2
 go_upto_region 4 with (fail)
 rw [← hW3]
 clear hW3
 go_wp2_with fail
 refine (C3.out _ (below_keep HB0.out HB3.out)).mono ?_
 rintro e w5 ⟨n1,rfl,hn1,hb⟩
 have HN1:=Lib.hid hn1
 have HB5:=Lib.hid (below_keep HB3.out hb)
 obtain ⟨z,zf,zt⟩:=HX3.out w5 hb
 have z0:=z 0 _ rfl
 have z1:=z 1 _ rfl
 have z2:=z 2 _ rfl
 have f1:=zf 1
 have f2:=zf 2
 have hw2:W0.heap.size≤w2.heap.size:=HB2.out.size
 have hne:w2.heap.size ≠ w.heap.size:=Nat.ne_of_gt hg2
 obtain ⟨W5,hW5⟩:∃ W5,W5=w5.setCell ⟨w2.heap.size,1,none⟩ (.int .i64 n1):=⟨_,rfl⟩
 have y0:W5.cell? ⟨w2.heap.size,0,none⟩=some (strV P1):=by rw [hW5,World.cell?_setCell_other _ _ _ _ (fun e => by injection e with _ e; cases e)]; exact z0
 have y1:W5.cell? ⟨w2.heap.size,1,none⟩=some (.int .i64 n1):=by rw [hW5]; exact World.cell?_setCell_same _ _ _ z1
 have y2:W5.cell? ⟨w2.heap.size,2,none⟩=some (.int .i64 1073741825):=by rw [hW5,World.cell?_setCell_other _ _ _ _ (fun e => by injection e with _ e; cases e)]; exact z2
 have HF5:Hid (∀ j,W5.frozen? ⟨w2.heap.size,j,none⟩=false):=fun j => by rw [hW5,World.frozen?_setCell]; exact zf j
 have HB5':Hid (Below W0.heap.size W0 W5):=by rw [hW5]; exact HB5.out.setCell (p:=⟨w2.heap.size,1,none⟩) hw2 _
 have HW5:=Lib.hid (below_keep HB0.out HB5'.out)
 obtain ⟨A,hA⟩:∃ A,(intO Q1).isSome=A:=⟨_,rfl⟩
 rw [hA]
 have HA:=Lib.hid hA
 clear hn1 hb z zf zt HX3 C3 hA
 go_upto_region 6 with (fail)
 rw [← hW5]
 clear hW5 z0 z1 z2 f1 f2
 by_cases hst:Q2=[42]
 ·subst hst
  obtain ⟨x,xf,xt⟩:=HX0.out W5 HB5'.out
  have r0:=x 0 _ rfl
  have r1:=x 1 _ rfl
  have r2:=x 2 _ rfl
  have k0:=xf 0
  have k1:=xf 1
  have k2:=xf 2
  have HH:Hid ((hiO [42]).isSome=true∧∀ m,hiO [42]=some m→1073741825=m):=by
   have:hiO [42]=some 1073741825:=rfl
   show _∧_
   rw [this]
   exact ⟨rfl,fun m hm => by cases hm; rfl⟩
  have HBE:Hid (∀ a b c,Below w.heap.size w (((W5.setCell ⟨w.heap.size,0,none⟩ a).setCell ⟨w.heap.size,1,none⟩ b).setCell ⟨w.heap.size,2,none⟩ c)):=fun a b c => ((HW5.out.setCell (p:=⟨w.heap.size,0,none⟩) (Nat.le_refl _) _).setCell (p:=⟨w.heap.size,1,none⟩) (Nat.le_refl _) _).setCell (p:=⟨w.heap.size,2,none⟩) (Nat.le_refl _) _
  clear x xf xt HX0 HF5 C4
  cases pb <;> cases qb <;> cases A
  all_goals
   go_wp2
   refine bodyPost_ret (by simp [results,Tryz.results43,go_sem,r0,r1,r2]; try rfl) rfl ?_
   exact dim_end HE.out.1 HE.out.2 HA.out HN1.out HH.out.1 HH.out.2 (HBE.out _ _ _) _ rfl
 ·have hst':(Q2 == [42])=false:=by rw [beq_eq_false_iff_ne]; exact hst
  have HST:=Lib.hid hst
  clear hst
  go_wp2_with fail
  refine (C4.out _ HW5.out).mono ?_
  rintro e w6 ⟨n2,rfl,hn2,hb⟩
  have HN2:=Lib.hid hn2
  have HLT:Hid (w2.heap.size<W5.heap.size):=World.block_lt_of_cell? _ _ y0
  have y0:=cell_later y0 hb
  have y1:=cell_later y1 hb
  have y2:=cell_later y2 hb
  have hf6:∀ j,w6.frozen? ⟨w2.heap.size,j,none⟩=false:=fun j => (hb.frozen (p:=⟨w2.heap.size,j,none⟩) HLT.out).trans (HF5.out j)
  have f2:=hf6 2
  obtain ⟨C,hC⟩:∃ C,(intO Q2).isSome=C:=⟨_,rfl⟩
  rw [hC]
  have HC:=Lib.hid hC
  obtain ⟨W6,hW6⟩:∃ W6,W6=w6.setCell ⟨w2.heap.size,2,none⟩ (.int .i64 n2):=⟨_,rfl⟩
  have q0:W6.cell? ⟨w2.heap.size,0,none⟩=some (strV P1):=by rw [hW6,World.cell?_setCell_other _ _ _ _ (fun e => by injection e with _ e; cases e)]; exact y0
  have q1:W6.cell? ⟨w2.heap.size,1,none⟩=some (.int .i64 n1):=by rw [hW6,World.cell?_setCell_other _ _ _ _ (fun e => by injection e with _ e; cases e)]; exact y1
  have q2:W6.cell? ⟨w2.heap.size,2,none⟩=some (.int .i64 n2):=by rw [hW6]; exact World.cell?_setCell_same _ _ _ y2
  have HB6:Hid (Below W0.heap.size W0 W6):=by rw [hW6]; exact (below_keep HB5'.out hb).setCell (p:=⟨w2.heap.size,2,none⟩) hw2 _
  have HW6:=Lib.hid (below_keep HB0.out HB6.out)
  clear hn2 hb hf6 hC C4
  go_upto_region 9 with (fail)
  rw [← hW6]
  clear hW6 y0 y1 y2 f2
  obtain ⟨x,xf,xt⟩:=HX0.out W6 HB6.out
  have r0:=x 0 _ rfl
  have r1:=x 1 _ rfl
  have r2:=x 2 _ rfl
  have k0:=xf 0
  have k1:=xf 1
  have k2:=xf 2
  have HBE:Hid (∀ a b c,Below w.heap.size w (((W6.setCell ⟨w.heap.size,0,none⟩ a).setCell ⟨w.heap.size,1,none⟩ b).setCell ⟨w.heap.size,2,none⟩ c)):=fun a b c => ((HW6.out.setCell (p:=⟨w.heap.size,0,none⟩) (Nat.le_refl _) _).setCell (p:=⟨w.heap.size,1,none⟩) (Nat.le_refl _) _).setCell (p:=⟨w.heap.size,2,none⟩) (Nat.le_refl _) _
  clear x xf xt HX0 HF5
  have HH:Hid ((hiO Q2).isSome=(C && decide (n2<1073741825))∧∀ m,hiO Q2=some m→n2=m):=by
   have h1:=HC.out
   have h2:=HN2.out
   unfold hiO
   rw [if_neg HST.out]
   cases h:intO Q2 with
   | none =>
    rw [h] at h1
    rw [← h1]
    exact ⟨rfl,fun m hm => by cases hm⟩
   | some v =>
    rw [h] at h1
    have h3:=h2 v h
    rw [← h1,h3]
    simp only
    by_cases hv:v<1073741825
    ·rw [if_pos hv]; exact ⟨by simp [hv],fun m hm => by cases hm; rfl⟩
    ·rw [if_neg hv]; exact ⟨by simp [hv],fun m hm => by cases hm⟩
  clear HC HN2 HST
  cases C with
  | false =>
   have HH1:Hid ((hiO Q2).isSome=false):=by show _=_; rw [HH.out.1]; rfl
   cases pb <;> cases qb <;> cases A
   all_goals
    go_wp2
    refine bodyPost_ret (by simp [results,Tryz.results43,go_sem,r0,r1,r2]; try rfl) rfl ?_
    exact dim_end HE.out.1 HE.out.2 HA.out HN1.out HH1.out HH.out.2 (HBE.out _ _ _) _ rfl
  | true =>
   by_cases hlt:n2<1073741825
   ·have t1:decide (n2<1073741825)=true:=decide_eq_true hlt
    have HH1:Hid ((hiO Q2).isSome=true):=by show _=_; rw [HH.out.1,t1]; rfl
    clear hlt
    cases pb <;> cases qb <;> cases A
    all_goals
     go_wp2
     refine bodyPost_ret (by simp [results,Tryz.results43,go_sem,r0,r1,r2]; try rfl) rfl ?_
     exact dim_end HE.out.1 HE.out.2 HA.out HN1.out HH1.out HH.out.2 (HBE.out _ _ _) _ rfl
   ·have t1:decide (n2<1073741825)=false:=decide_eq_false hlt
    have HH1:Hid ((hiO Q2).isSome=false):=by show _=_; rw [HH.out.1,t1]; rfl
    clear hlt
    cases pb <;> cases qb <;> cases A
    all_goals
     go_wp2
     refine bodyPost_ret (by simp [results,Tryz.results43,go_sem,r0,r1,r2]; try rfl) rfl ?_
     exact dim_end HE.out.1 HE.out.2 HA.out HN1.out HH1.out HH.out.2 (HBE.out _ _ _) _ rfl
def RetAq (s:List UInt8) (w:World) (e:Ending) (w':World):Prop:=∃ a:AttrT,e=.returned (.tuple #[.agg #[strV a.name,.int .i64 a.ty],.bool (attrO s).isSome])∧(∀ x,attrO s=some x→x=a)∧Below w.heap.size w w'
theorem word_type (k:Int):typeW k=wordT k:=rfl
theorem tyO_at {s:List UInt8} {k:Int} (h1:1≤k) (h2:k≤4) (h:wordT k=s) (hn:∀ j,1≤j→j<k→wordT j ≠ s):tyO s=some k:=by
 unfold tyO
 obtain rfl | rfl | rfl | rfl:k=1 ∨ k=2 ∨ k=3 ∨ k=4:=by omega
 ·rw [if_pos h]
 ·rw [if_neg (hn 1 (by decide) (by decide)),if_pos h]
 ·rw [if_neg (hn 1 (by decide) (by decide)),if_neg (hn 2 (by decide) (by decide)),if_pos h]
 ·rw [if_neg (hn 1 (by decide) (by decide)),if_neg (hn 2 (by decide) (by decide)),if_neg (hn 3 (by decide) (by decide)),if_pos h]
theorem tyO_no {s:List UInt8} (hn:∀ j,1≤j→j<5→wordT j ≠ s):tyO s=none:=by
 unfold tyO
 rw [if_neg (hn 1 (by decide) (by decide)),if_neg (hn 2 (by decide) (by decide)),if_neg (hn 3 (by decide) (by decide)),if_neg (hn 4 (by decide) (by decide))]
set_option maxHeartbeats 3200000 in
set_option maxRecDepth 100000 in
theorem attribute_any (s:List UInt8) (w:World) (hg:Gl w) (hl:s.length≤20000):Calls Tryz.prog 44 #[strV s] w (RetAq s w):=by
 obtain ⟨⟨P1,P2,pb⟩,e1⟩:∃ p,Lib.cut s [32]=p:=⟨_,rfl⟩
 have C1:Hid (∀ w1,Below w.heap.size w w1→Calls Tryz.prog 88 #[strV s,strV [32]] w1 (RetV' (.tuple #[strV P1,strV P2,.bool pb]) w1)):=fun w1 hb => by
  have:=cutS_any s [32] w1 (hg.ml.later hb) hl
  rwa [e1] at this
 have CT:=Lib.hid (fun (k:Int) (w1:World) (h1:0≤k) (h2:k≤4) => typeWord_any k w1 h1 h2)
 have HAO:Hid (attrO s=match tyO P2 with | some t => some ⟨P1,t⟩ | none => none):=by
  show _=_
  unfold attrO
  rw [e1]
  rfl
 obtain ⟨W0,hW0,hb0,hs0,hx0⟩:=blk_at w [.string ⟨#[]⟩,.int .i64 0] 81
 have HB0:=Lib.hid hb0
 have HX0:=Lib.hid hx0
 clear hg hl e1 hb0 hx0 hs0
 go_enter Tryz.func44,Tryz.ntmps44
 go_upto_region 1 with (fail)
 rw [← hW0]
 clear hW0
 go_wp2_with fail
 refine (C1.out _ HB0.out).mono ?_
 rintro e w1 ⟨rfl,hb⟩
 have HB1:=Lib.hid hb
 clear hb C1
 go_wp2
 go_loopw [7] (fun iv wr => ∃ k:Int,iv=.int .i64 k∧Hid (1≤k∧k≤5)∧Hid (∀ j,1≤j→j<k→wordT j ≠ P2)∧Below W0.heap.size W0 wr) (fun iv _ => 5 - (intOf iv).toNat)
 case atStart => exact ⟨1,rfl,⟨by decide,by decide⟩,fun j h1 h2 => by omega,HB1.out⟩
 case round =>
  obtain ⟨k,rfl,HK,HN,hb⟩:=hrel
  have HB:=Lib.hid hb
  obtain ⟨x,xf,xt⟩:=HX0.out wr hb
  have r0:=x 0 _ rfl
  have r1:=x 1 _ rfl
  have k0:=xf 0
  have k1:=xf 1
  have HBW:=Lib.hid (below_keep HB0.out hb)
  have HBE:Hid (∀ a b,Below w.heap.size w ((wr.setCell ⟨w.heap.size,0,none⟩ a).setCell ⟨w.heap.size,1,none⟩ b)):=fun a b => (HBW.out.setCell (p:=⟨w.heap.size,0,none⟩) (Nat.le_refl _) _).setCell (p:=⟨w.heap.size,1,none⟩) (Nat.le_refl _) _
  clear x xf xt hb
  by_cases hlt:k≤4
  ·have CTk:=Lib.hid (CT.out k wr (by have:=HK.out.1; omega) hlt)
   rw [word_type] at CTk
   obtain ⟨S,hS⟩:∃ S,S=wordT k:=⟨_,rfl⟩
   rw [← hS] at CTk
   by_cases he:S=P2
   ·have HT:Hid (tyO P2=some k):=tyO_at HK.out.1 hlt (by rw [← hS,he]) HN.out
    subst he
    clear hS HN
    go_wp2_with fail
    refine CTk.out.mono ?_
    rintro e w9 ⟨rfl,hw9⟩
    subst w9
    go_wp2
    refine bodyPost_ret (by simp [results,Tryz.results44,go_sem,r0,r1]; try rfl) rfl ?_
    refine ⟨⟨P1,k⟩,?_,fun y hy => ?_,HBE.out _ _⟩
    ·rw [HAO.out,HT.out]; rfl
    ·rw [HAO.out,HT.out] at hy; cases hy; rfl
   ·have HNE:Hid (∀ j,1≤j→j<k+1→wordT j ≠ P2):=fun j h1 h2 => by
     rcases Int.lt_or_eq_of_le (show j≤k by omega) with h | h
     ·exact HN.out j h1 h
     ·rw [h,← hS]; exact he
    have he':(S == P2)=false:=by rw [beq_eq_false_iff_ne]; exact he
    have s1:IntKind.i64.wrap (k+1)=k+1:=IntWalk.i64_in _ (by have:=HK.out.1; omega)
    have HK2:Hid ((1≤k+1∧k+1≤5)∧5 - (k+1).toNat<5 - k.toNat):=by show _∧_; have:=HK.out.1; omega
    clear hS he HN
    go_wp2_with fail
    refine CTk.out.mono ?_
    rintro e w9 ⟨rfl,hw9⟩
    subst w9
    go_wp2
    exact ⟨⟨k+1,rfl,HK2.out.1,HNE.out,HB.out⟩,HK2.out.2⟩
  ·have HT:Hid (tyO P2=none):=tyO_no fun j h1 h2 => HN.out j h1 (by omega)
   clear HN CT
   go_wp2
   refine bodyPost_ret (by simp [results,Tryz.results44,go_sem,r0,r1]; try rfl) rfl ?_
   refine ⟨⟨[],0⟩,?_,fun y hy => ?_,HBE.out _ _⟩
   ·rw [HAO.out,HT.out]; rfl
   ·rw [HAO.out,HT.out] at hy; cases hy
end Go.Proofs.YtdbnebhehiiakaaGreatDoor
