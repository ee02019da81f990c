/- Lemmas and contracts, each under its own condition: The reference's guess: the contract. The reference's line: the contract. The reference's Print: the contract. -/
import Derived.Deep.DeepCutAuto
import Derived.Deep.CutBlock
import Derived.Test.YtdbnebhehiiakaaGreatDoorS11
import Derived.Test.YtdbnebhehiiakaaGreatDoorS13
import Derived.Test.YtdbnebhehiiakaaGreatDoorS19
import Derived.Test.YtdbnebhehiiakaaGreatDoorS28
import Derived.Test.YtdbnebhehiiakaaGreatDoorS4
import Derived.Test.YtdbnebhehiiakaaGreatDoorS69
import Derived.Test.YtdbnebhehiiakaaGreatDoorS71
import Derived.Test.YtdbnebhehiiakaaGreatDoorS72
namespace Go.Proofs.YtdbnebhehiiakaaGreatDoor
open Go.RowKit
def RetGu (x:ArrT) (w:World) (e:Ending) (w':World):Prop:=∃ n v1 v2 v3,e=.returned (.agg #[v1,v2,v3])∧ArrO n w' v1 v2 v3 x∧Below w.heap.size w w'
def tyK (p:List UInt8) (k:Int):Int:=match tyO p with
 | some t => if t<k then t else 0
 | none => 0
theorem tyK_one (p:List UInt8):tyK p 1=0:=by
 unfold tyK
 cases h:tyO p with
 | none => rfl
 | some t => have:=(tyO_some h).2; simp only; rw [if_neg (by omega)]
theorem tyK_five (p:List UInt8):tyK p 5=(tyO p).getD 0:=by
 unfold tyK
 cases h:tyO p with
 | none => rfl
 | some t => have:=(tyO_some h).2; simp only; rw [if_pos (by omega)]; rfl
theorem tyK_hit {p:List UInt8} {k:Int} (h1:1≤k) (h2:k≤4) (h:wordT k=p):tyK p (k+1)=k:=by
 unfold tyK
 rw [← h,tyO_word h1 h2]
 simp only
 rw [if_pos (by omega)]
theorem tyK_miss {p:List UInt8} {k:Int} (h:wordT k ≠ p):tyK p (k+1)=tyK p k:=by
 unfold tyK
 cases ht:tyO p with
 | none => rfl
 | some t =>
  simp only
  have hne:t ≠ k:=fun e => h (by rw [← e]; exact (tyO_some ht).1)
  by_cases hlt:t<k
  ·rw [if_pos hlt,if_pos (by omega)]
  ·rw [if_neg hlt,if_neg (by omega)]
theorem three_of {F:List (List UInt8)} (h:F.length=3):∃ p0 p1 p2,F=[p0,p1,p2]:=by
 match F,h with
 | [a,b,c],_ => exact ⟨a,b,c,rfl⟩
theorem last_at {Q:List (List UInt8)} (h:0<Q.length):Q[Q.length - 1]? = some (Q.getLastD []):=by
 cases Q with
 | nil => simp at h
 | cons a q => simp [List.getLast?_eq_getElem?,List.getLastD_eq_getLast?]
structure GuJ (VL:List (Option Value)) (w4 W5:World) (dn:Nat→Bool) (vals:Nat→Value) (w:World):Prop where
 fv:Told VL dn vals
 w0:dn 15=false→w=w4.drew
 w1:dn 15=true→dn 16=false→w=w4.drew.alloc (.cells #[.string ⟨#[]⟩,.int .i64 0,.int .i64 0] 74)
 w2:dn 16=true→w=W5
 o:dn 16=true→dn 15=true
section
variable {VL:List (Option Value)} {w4 W5 w:World} {dn:Nat→Bool} {vals:Nat→Value}
theorem GuJ.start:GuJ VL w4 W5 (fun _ => false) (fun _ => undef) { w4 with drawn:=w4.drawn+1 } :=
 ⟨fun _ _ _ h => Bool.noConfusion h,fun _ => rfl,fun h => Bool.noConfusion h,fun h => Bool.noConfusion h,fun h => Bool.noConfusion h⟩
theorem GuJ.step {i:Nat} {x:Value} (h:GuJ VL w4 W5 dn vals w) (h1:15 ≠ i) (h2:16 ≠ i) (hv:VL[i]? = some (some x) ∨ VL[i]? = some none):GuJ VL w4 W5 (upd dn i) (updV vals i x) w:=by
 refine ⟨h.fv.step hv,?_,?_,?_,?_⟩
 ·rw [upd_ne h1]; exact h.w0
 ·rw [upd_ne h1,upd_ne h2]; exact h.w1
 ·rw [upd_ne h2]; exact h.w2
 ·rw [upd_ne h1,upd_ne h2]; exact h.o
theorem GuJ.alloc {x:Value} (h:GuJ VL w4 W5 dn vals w4.drew) (h2:dn 16=false) (hv:VL[15]? = some (some x)):GuJ VL w4 W5 (upd dn 15) (updV vals 15 x) (w4.drew.alloc (.cells #[.string ⟨#[]⟩,.int .i64 0,.int .i64 0] 74)):=by
 refine ⟨h.fv.step (.inl hv),?_,fun _ _ => rfl,?_,fun _ => upd_at⟩
 ·rw [upd_at]; exact fun h => Bool.noConfusion h
 ·rw [upd_ne (by decide),h2]; exact fun h => Bool.noConfusion h
theorem GuJ.store {x:Value} (h:GuJ VL w4 W5 dn vals (w4.drew.alloc (.cells #[.string ⟨#[]⟩,.int .i64 0,.int .i64 0] 74))) (h1:dn 15=true) (hv:VL[16]? = some none):GuJ VL w4 W5 (upd dn 16) (updV vals 16 x) W5:=by
 refine ⟨h.fv.step (.inr hv),?_,?_,fun _ => rfl,fun _ => ?_⟩
 ·rw [upd_ne (by decide),h1]; exact fun h => Bool.noConfusion h
 ·rw [upd_at]; exact fun _ h => Bool.noConfusion h
 ·rw [upd_ne (by decide)]; exact h1
theorem GuJ.below (h:GuJ VL w4 W5 dn vals w) (hb:Below w4.heap.size w4 W5):Below w4.heap.size w4 w:=by
 cases h16:dn 16 with
 | true => rw [h.w2 h16]; exact hb
 | false =>
  cases h15:dn 15 with
  | false => rw [h.w0 h15]; exact (Below.refl _ _).drew
  | true => rw [h.w1 h15 h16]; exact below_keep (Below.refl _ _).drew (below_alloc _ _)
end
set_option maxHeartbeats 32000000 in
set_option maxRecDepth 100000 in
theorem guessR_any (S:ByteArray) (w:World) (hs:S.size≤20000):Calls Tryz.prog 46 #[.string S] w (RetGu (guessE S.data.toList) w):=by
 obtain ⟨j1,hj1,hy1,hz1,ht1⟩:=info_parts infoDimC
 obtain ⟨j2,hj2,hy2,hz2,ht2⟩:=info_parts infoAttrC
 obtain ⟨j3,hj3,hy3,hz3,ht3⟩:=info_parts infoCell
 obtain ⟨L,hL⟩:∃ L,L=cutT 10 false [] S.data.toList:=⟨_,rfl⟩
 have C1:=Lib.hid (fun w1 => cutR_any S 10 w1 (by decide) hs)
 rw [← hL] at C1
 have HLL:Hid (L.length≤20001):=by show _≤_; rw [hL]; have:=cutT_count 10 S.data.toList false []; rw [lenB] at this; omega
 have HLP:Hid (∀ x ∈ L,x.length≤20000):=fun x hx => by
  rw [hL] at hx
  have:=cutT_part 10 S.data.toList false [] x hx
  rw [lenB] at this
  simp only [List.length_nil] at this; omega
 obtain ⟨X,hX⟩:∃ X,X=guessE S.data.toList:=⟨_,rfl⟩
 have HX:Hid (X=guessF ⟨[],[],[]⟩ L):=by show _=_; rw [hX,hL]; rfl
 rw [← hX]
 obtain ⟨W0,hW0,hb0,hs0,hx0⟩:=blk_at w [.slice none 0 0,.slice none 0 0,.slice none 0 0] 26
 have HB0:=Lib.hid hb0
 have HX0:=Lib.hid hx0
 have HM1:=Lib.hid (MakA.start W0)
 obtain ⟨W1,hW1⟩:∃ W1,W1=W0.alloc (.cells #[.slice none 0 0,.slice none 0 0,.slice none 0 0] 26):=⟨_,rfl⟩
 rw [← hW1] at HM1
 have HB1:Hid (Below W0.heap.size W0 W1):=by rw [hW1]; exact below_alloc _ _
 have HW1:=Lib.hid hW1
 clear hs hL hX hb0 hs0 hx0 hW1
 go_enter Tryz.func46,Tryz.ntmps46
 let KF:(Ending→World→Prop)→Exit→Act→World→Prop:=bodyPost Tryz.prog Tryz.f46
 go_upto_region 1 with (fail)
 rw [← hW0]
 clear hW0
 go_upto_region 2 with (fail)
 rw [← HW1.out]
 clear HW1
 go_wp2_with fail
 refine (C1.out W1).mono ?_
 rintro e w2 ⟨v,rfl,hsv,hb⟩
 have HSV:=Lib.hid hsv
 obtain ⟨sa,sc,rfl,-⟩:=hsv.list.shape
 have HM2:=Lib.hid (HM1.out.later hb)
 have HB2:=Lib.hid (below_keep HB1.out hb)
 have hll:L.length≤20001:=HLL.out
 clear hsv hb C1 HM1
 go_wp2
 go_loopw [5] (fun iv wr => ∃ (j:Nat) (v1 v2 v3:Value) (x:ArrT),j≤L.length∧iv=.int .i64 (j:Nat)∧Hid (x.dims.length≤j∧x.attrs.length≤j∧x.cells.length≤j)∧Hid (X=guessF x (L.drop j))∧MakA W0.heap.size W0.heap.size wr v1 v2 v3 x∧Below W0.heap.size W0 wr∧StrT wr (.slice sa L.length sc) L) (fun iv _ => L.length - (intOf iv).toNat)
 case atStart => exact ⟨0,_,_,_,⟨[],[],[]⟩,Nat.zero_le _,rfl,⟨Nat.le_refl _,Nat.le_refl _,Nat.le_refl _⟩,HX.out,HM2.out,HB2.out,HSV.out⟩
 case round =>
  obtain ⟨j,v1,v2,v3,x,hj,rfl,HLN,HGF,hmk,hb,hst⟩:=hrel
  have HMK:=Lib.hid hmk
  have HB:=Lib.hid hb
  have HSS:=Lib.hid hst
  obtain ⟨a1,n1,e1,-⟩:=(hmk.dm.list cellw_Dim).shape
  obtain ⟨a2,n2,e2,-⟩:=(hmk.at'.list cellw_Attr).shape
  obtain ⟨a3,n3,e3,-⟩:=hmk.ce.cells.shape
  subst e1 e2 e3
  by_cases hlt:j<L.length
  ·obtain ⟨gs,os,l,ea,hx,hr⟩:=hst.list.at j hlt
   subst ea
   unfold StrR at hr
   rw [Nat.mul_one] at hr
   have hml:=List.mem_of_getElem? hx
   have hll2:=HLP.out l hml
   obtain ⟨F,hF⟩:∃ F,F=cutT 32 false [] l:=⟨_,rfl⟩
   have CF:Hid (∀ w1,Calls Tryz.prog 91 #[strV l,.int .u8 32] w1 (RetSp F w1)):=fun w1 => by rw [hF]; exact cutL_any l 32 w1 (by decide) hll2
   have hgf:=HGF.out
   rw [drop_cons hx,guessF] at hgf
   have HGL:Hid (guessL x l=if F.length=3∧F.getD 0 []=[100,105,109] then ⟨x.dims ++ [dimG F],x.attrs,x.cells⟩ else if F.length=3∧F.getD 0 []=[97,116,116,114] then ⟨x.dims,x.attrs ++ [attrG F],x.cells⟩ else if l=[] then x else ⟨x.dims,x.attrs,x.cells ++ [cellG l]⟩):=by
    show _=_
    rw [hF]; rfl
   have HGG:=Lib.hid hgf
   have HFP:Hid (∀ p ∈ F,p.length≤20000):=fun p hp => by
    rw [hF] at hp
    have:=cutT_part 32 l false [] p hp
    simp only [List.length_nil] at this; omega
   have HFL:Hid (F.length≤20001):=by show _≤_; rw [hF]; have:=cutT_count 32 l false []; omega
   have HLE:=Lib.hid hll2
   have HI:Hid (j+1≤L.length∧L.length - (j+1)<L.length - j):=by show _∧_; omega
   have b0:(0:Int)≤(j:Int):=by omega
   have b1:(j:Int)<(L.length:Int):=by omega
   have HHR:=Lib.hid hr
   clear hj hx hmk hb hst hlt hml hll2 hF hgf HGF
   go_wp2_with fail
   refine (CF.out wr).mono ?_
   rintro e w3 ⟨v,rfl,hsf,hb3⟩
   have HF3:=Lib.hid hsf
   obtain ⟨fa,fc,rfl,-⟩:=hsf.list.shape
   have HB3:=Lib.hid (below_keep HB.out hb3)
   have HM3:=Lib.hid (HMK.out.later hb3)
   have HS3:=Lib.hid (HSS.out.later hb3)
   have HR3:=Lib.hid (cell_later HHR.out hb3)
   clear hsf hb3 hr CF HMK HSS HHR HB
   have hcase:(∃ p1 p2,F=[[100,105,109],p1,p2]) ∨ (∃ p1 p2,F=[[97,116,116,114],p1,p2]) ∨ (¬ (F.length=3∧F.getD 0 []=[100,105,109])∧¬ (F.length=3∧F.getD 0 []=[97,116,116,114])∧(((F.length:Int) == 3)=false ∨ ∃ p0 p1 p2,F=[p0,p1,p2]∧(p0 == [100,105,109])=false∧(p0 == [97,116,116,114])=false)):=by
    by_cases h3:F.length=3
    ·obtain ⟨p0,p1,p2,rfl⟩:=three_of h3
     by_cases hd:p0=[100,105,109]
     ·subst hd; exact .inl ⟨p1,p2,rfl⟩
     ·by_cases ha:p0=[97,116,116,114]
      ·subst ha; exact .inr (.inl ⟨p1,p2,rfl⟩)
      ·exact .inr (.inr ⟨fun h => hd h.2,fun h => ha h.2,.inr ⟨p0,p1,p2,rfl,by rw [beq_eq_false_iff_ne]; exact hd,by rw [beq_eq_false_iff_ne]; exact ha⟩⟩)
    ·exact .inr (.inr ⟨fun h => h3 h.1,fun h => h3 h.1,.inl (by rw [beq_eq_false_iff_ne]; omega)⟩)
   rcases hcase with ⟨p1,p2,rfl⟩ | ⟨p1,p2,rfl⟩ | ⟨hn1,hn2,hend⟩
   ·obtain ⟨gf,of,y0,ef,hy0,f0⟩:=HF3.out.list.at 0 (by simp)
    subst ef
    obtain ⟨gf1,of1,y1,ef,hy1',f1⟩:=HF3.out.list.at 1 (by simp)
    injection ef with ef
    injection ef with ef1 ef2
    subst ef1 ef2
    obtain ⟨gf1,of1,y2,ef,hy2',f2⟩:=HF3.out.list.at 2 (by simp)
    injection ef with ef
    injection ef with ef1 ef2
    subst ef1 ef2
    simp only [List.getElem?_cons_zero,List.getElem?_cons_succ,Option.some.injEq] at hy0 hy1' hy2'
    subst hy0 hy1' hy2'
    unfold StrR at f0 f1 f2
    rw [Nat.zero_mul,Nat.add_zero] at f0
    rw [Nat.one_mul] at f1
    rw [Nat.mul_one] at f2
    obtain ⟨Q,hQ⟩:∃ Q,Q=cutT 58 false [] p2:=⟨_,rfl⟩
    have CQ:Hid (∀ w1,Calls Tryz.prog 91 #[strV p2,.int .u8 58] w1 (RetSp Q w1)):=fun w1 => by rw [hQ]; exact cutL_any p2 58 w1 (by decide) (HFP.out p2 (by simp))
    obtain ⟨q0,qr,hqe⟩:=cutT_ne 58 p2 false []
    rw [← hQ] at hqe
    obtain ⟨m,hm⟩:∃ m,Q.length=m+1:=⟨qr.length,by rw [hqe,List.length_cons]⟩
    obtain ⟨ql,hql⟩:∃ ql,ql=Q.getLastD []:=⟨_,rfl⟩
    have hqa:Q[m]? = some ql:=by rw [hql,← last_at (by omega),hm]; rfl
    have hq0:Q[0]? = some q0:=by rw [hqe]; rfl
    have hml:m≤30000:=by have:=cutT_count 58 p2 false []; rw [← hQ] at this; have:=HFP.out p2 (by simp); omega
    obtain ⟨N0,hN0⟩:∃ N,N=numE q0:=⟨_,rfl⟩
    obtain ⟨N1,hN1⟩:∃ N,N=numE ql:=⟨_,rfl⟩
    have hqp:∀ p ∈ Q,p.length≤20000:=fun p hp => by
     rw [hQ] at hp
     have:=cutT_part 58 p2 false [] p hp
     have h2:=HFP.out p2 (by simp)
     simp only [List.length_nil] at this; omega
    have CN0:Hid (∀ w1,Calls Tryz.prog 92 #[strV q0] w1 (fun e w' => e=.returned (.int .i64 N0)∧w'=w1)):=fun w1 => by
     rw [hN0]; exact numberR_any ⟨q0.toArray⟩ w1 (by have:=hqp q0 (List.mem_of_getElem? hq0); simpa [ByteArray.size] using this)
    have CN1:Hid (∀ w1,Calls Tryz.prog 92 #[strV ql] w1 (fun e w' => e=.returned (.int .i64 N1)∧w'=w1)):=fun w1 => by
     rw [hN1]; exact numberR_any ⟨ql.toArray⟩ w1 (by have:=hqp ql (List.mem_of_getElem? hqa); simpa [ByteArray.size] using this)
    obtain ⟨Hi,hHi⟩:∃ Hi,Hi=hiG ql:=⟨_,rfl⟩
    have HHI:Hid (Hi=if ql=[42] then 1073741825 else N1):=by show _=_; rw [hHi,hN1]; rfl
    have HGN:Hid (X=guessF ⟨x.dims ++ [DimT.mk p1 N0 Hi],x.attrs,x.cells⟩ (L.drop (j+1))):=by
     show _=_
     rw [HGG.out,HGL.out,if_pos ⟨rfl,rfl⟩]
     unfold dimG
     simp only [List.getD_cons_succ,List.getD_cons_zero]
     rw [← hQ,← hql,← hHi,hqe,List.headD_cons,← hN0]
    have HLN2:Hid ((x.dims ++ [(⟨p1,N0,Hi⟩:DimT)]).length≤j+1∧x.attrs.length≤j+1∧x.cells.length≤j+1):=by show _∧_; have:=HLN.out; rw [List.length_append,List.length_singleton]; omega
    have HQA:=Lib.hid (And.intro hqa (And.intro hq0 hm))
    have HF1:=Lib.hid f1
    clear hQ hqe hm hql hqa hq0 hN0 hN1 hqp hHi HGG HGL
    go_wp2_with fail
    refine (CQ.out w3).mono ?_
    rintro e w4 ⟨v,rfl,hsq,hb4⟩
    have HB4:=Lib.hid (below_keep HB3.out hb4)
    have HM4:=Lib.hid (HM3.out.later hb4)
    have HS4:=Lib.hid (HS3.out.later hb4)
    have f1:=cell_later HF1.out hb4
    obtain ⟨qa,qc,hqs,-⟩:=hsq.list.shape
    rw [HQA.out.2.2] at hqs
    subst hqs
    obtain ⟨gq,oq,y,eq,hy,k0⟩:=hsq.list.at 0 (by rw [HQA.out.2.2]; omega)
    subst eq
    rw [HQA.out.2.1] at hy
    simp only [Option.some.injEq] at hy
    subst hy
    obtain ⟨gq1,oq1,y,eq,hy,k1⟩:=hsq.list.at m (by rw [HQA.out.2.2]; omega)
    injection eq with eq
    injection eq with eq1 eq2
    subst eq1 eq2
    rw [HQA.out.1] at hy
    simp only [Option.some.injEq] at hy
    subst hy
    unfold StrR at k0 k1
    rw [Nat.zero_mul,Nat.add_zero] at k0
    rw [Nat.mul_one] at k1
    have b3:(0:Int)<(m:Int)+1:=by omega
    have b4:(0:Int)≤(m:Int):=by omega
    have b5:(m:Int)<(m:Int)+1:=by omega
    have b6:IntKind.i64.wrap (m:Int)=(m:Int):=IntWalk.i64_in _ (by omega)
    have b7:IntKind.i64.wrap ((m:Int)+1 - 1)=(m:Int):=by rw [show (m:Int)+1 - 1=(m:Int) by omega]; exact b6
    obtain ⟨W5',hW5',hb5,hs5,hx5⟩:=blk_at w4 [strV p1,.int .i64 N0,.int .i64 N1] 74
    obtain ⟨W5,hW5⟩:∃ W5,W5=(w4.alloc (.cells #[strV p1,.int .i64 N0,.int .i64 N1] 74)).drew:=⟨_,rfl⟩
    have hd5:Below W5'.heap.size W5' W5:=by rw [hW5,hW5']; exact (Below.refl _ _).drew
    have HB5:Hid (Below w4.heap.size w4 W5):=below_keep hb5 hd5
    obtain ⟨z,zf,-⟩:=hx5 W5 hd5
    have z0:W5.cell? ⟨w4.heap.size,0,none⟩=some (strV p1):=z 0 _ rfl
    have z1:W5.cell? ⟨w4.heap.size,1,none⟩=some (.int .i64 N0):=z 1 _ rfl
    have z2:W5.cell? ⟨w4.heap.size,2,none⟩=some (.int .i64 N1):=z 2 _ rfl
    have g2:W5.frozen? ⟨w4.heap.size,2,none⟩=false:=zf 2
    have k5:=cell_later k1 HB5.out
    have HZ5:=Lib.hid (And.intro z0 (And.intro z1 (And.intro z2 (And.intro g2 k5))))
    have HW5:=Lib.hid hW5
    clear hsq hb4 hb5 hs5 hx5 z zf hW5 hW5' hd5 CQ HM3 HS3 HB3 f0 f2 z0 z1 z2 g2 k5
    go_wp2_with fail
    refine wp_region_inv [some 38,some 39,some 40,some 41,some 42,some 43,some 44,some 45,some 46,some 47,some 48,some 49,some 50,some 51,some 52,some 8,none] (GuJ [some (.slice (some ⟨gf,of,none⟩) 3 fc),some (.pointer (some ⟨gf,of+1,none⟩)),some (strV p1),some (.slice (some ⟨gq,oq,none⟩) (m+1) qc),some (.pointer (some ⟨gq,oq,none⟩)),some (strV q0),some (.int .i64 N0),some (.slice (some ⟨gq,oq,none⟩) (m+1) qc),some (.slice (some ⟨gq,oq,none⟩) (m+1) qc),some (.int .i64 ((m:Int)+1)),some (.int .i64 (m:Nat)),some (.pointer (some ⟨gq,oq+m,none⟩)),some (strV ql),some (.int .i64 N1),some (.agg #[strV p1,.int .i64 N0,.int .i64 N1]),some (.pointer (some ⟨w4.heap.size,0,none⟩)),none] w4 W5) rfl (by kernel_rfl) (by kernel_rfl) (by kernel_rfl) (by kernel_rfl) ?_ ?_ ?_
    ·exact GuJ.start
    ·intro i9 op9 ho
     have hi9:i9<17:=(Array.getElem?_eq_some_iff.1 ho).1
     match i9,hi9 with
     | 0,_ =>
      obtain rfl:=Option.some.inj ho
      intro a9 dn vals wx hJ0 hdi hde hdj hev hsl hun
      have hJ:=Lib.hid hJ0
      rw [if_pos (wanted_none rfl)]
      have f6:(a9.tmps[6]?).getD undef=.slice (some ⟨gf,of,none⟩) 3 fc:=hev 6 (by kernel_rfl)
      clear hde hdj hev hsl hun hJ0 hdi
      go_simp
      exact hJ.out.step (by decide) (by decide) (.inl rfl)
     | 1,_ =>
      obtain rfl:=Option.some.inj ho
      intro a9 dn vals wx hJ0 hdi hde hdj hev hsl hun
      have hJ:=Lib.hid hJ0
      rw [if_pos (wanted_none rfl)]
      have f38:(a9.tmps[38]?).getD undef=.slice (some ⟨gf,of,none⟩) 3 fc:=(hsl 0 38 (hde 0 _ rfl rfl) rfl).trans (hJ.out.fv 0 _ rfl (hde 0 _ rfl rfl))
      clear hde hdj hev hsl hun hJ0 hdi
      go_simp
      exact hJ.out.step (by decide) (by decide) (.inl rfl)
     | 2,_ =>
      obtain rfl:=Option.some.inj ho
      intro a9 dn vals wx hJ0 hdi hde hdj hev hsl hun
      have hJ:=Lib.hid hJ0
      rw [if_pos (wanted_none rfl)]
      have f39:(a9.tmps[39]?).getD undef=.pointer (some ⟨gf,of+1,none⟩):=(hsl 1 39 (hde 0 _ rfl rfl) rfl).trans (hJ.out.fv 1 _ rfl (hde 0 _ rfl rfl))
      have hbw:=hJ.out.below HB5.out
      have cc:=cell_later f1 hbw
      clear hbw
      clear hde hdj hev hsl hun hJ0 hdi
      go_simp
      exact hJ.out.step (by decide) (by decide) (.inl rfl)
     | 3,_ =>
      obtain rfl:=Option.some.inj ho
      intro a9 dn vals wx hJ0 hdi hde hdj hev hsl hun
      have hJ:=Lib.hid hJ0
      rw [if_pos (wanted_none rfl)]
      have f7:(a9.tmps[7]?).getD undef=.slice (some ⟨gq,oq,none⟩) (m+1) qc:=hev 7 (by kernel_rfl)
      clear hde hdj hev hsl hun hJ0 hdi
      go_simp
      exact hJ.out.step (by decide) (by decide) (.inl rfl)
     | 4,_ =>
      obtain rfl:=Option.some.inj ho
      intro a9 dn vals wx hJ0 hdi hde hdj hev hsl hun
      have hJ:=Lib.hid hJ0
      rw [if_pos (wanted_none rfl)]
      have f41:(a9.tmps[41]?).getD undef=.slice (some ⟨gq,oq,none⟩) (m+1) qc:=(hsl 3 41 (hde 0 _ rfl rfl) rfl).trans (hJ.out.fv 3 _ rfl (hde 0 _ rfl rfl))
      clear hde hdj hev hsl hun hJ0 hdi
      go_simp
      exact hJ.out.step (by decide) (by decide) (.inl rfl)
     | 5,_ =>
      obtain rfl:=Option.some.inj ho
      intro a9 dn vals wx hJ0 hdi hde hdj hev hsl hun
      have hJ:=Lib.hid hJ0
      rw [if_pos (wanted_none rfl)]
      have f42:(a9.tmps[42]?).getD undef=.pointer (some ⟨gq,oq,none⟩):=(hsl 4 42 (hde 0 _ rfl rfl) rfl).trans (hJ.out.fv 4 _ rfl (hde 0 _ rfl rfl))
      have hbw:=hJ.out.below HB5.out
      have cc:=cell_later k0 hbw
      clear hbw
      clear hde hdj hev hsl hun hJ0 hdi
      go_simp
      exact hJ.out.step (by decide) (by decide) (.inl rfl)
     | 6,_ =>
      obtain rfl:=Option.some.inj ho
      intro a9 dn vals wx hJ0 hdi hde hdj hev hsl hun
      have hJ:=Lib.hid hJ0
      rw [if_pos (wanted_none rfl)]
      have f43:(a9.tmps[43]?).getD undef=strV q0:=(hsl 5 43 (hde 0 _ rfl rfl) rfl).trans (hJ.out.fv 5 _ rfl (hde 0 _ rfl rfl))
      clear hde hdj hev hsl hun hJ0 hdi
      go_simp
      refine (CN0.out wx).mono ?_
      rintro e w9 ⟨rfl,hw9⟩
      subst hw9
      exact ⟨_,rfl,hJ.out.step (by decide) (by decide) (.inl rfl)⟩
     | 7,_ =>
      obtain rfl:=Option.some.inj ho
      intro a9 dn vals wx hJ0 hdi hde hdj hev hsl hun
      have hJ:=Lib.hid hJ0
      rw [if_pos (wanted_none rfl)]
      have f7:(a9.tmps[7]?).getD undef=.slice (some ⟨gq,oq,none⟩) (m+1) qc:=hev 7 (by kernel_rfl)
      clear hde hdj hev hsl hun hJ0 hdi
      go_simp
      exact hJ.out.step (by decide) (by decide) (.inl rfl)
     | 8,_ =>
      obtain rfl:=Option.some.inj ho
      intro a9 dn vals wx hJ0 hdi hde hdj hev hsl hun
      have hJ:=Lib.hid hJ0
      rw [if_pos (wanted_none rfl)]
      have f7:(a9.tmps[7]?).getD undef=.slice (some ⟨gq,oq,none⟩) (m+1) qc:=hev 7 (by kernel_rfl)
      clear hde hdj hev hsl hun hJ0 hdi
      go_simp
      exact hJ.out.step (by decide) (by decide) (.inl rfl)
     | 9,_ =>
      obtain rfl:=Option.some.inj ho
      intro a9 dn vals wx hJ0 hdi hde hdj hev hsl hun
      have hJ:=Lib.hid hJ0
      rw [if_pos (wanted_none rfl)]
      have f46:(a9.tmps[46]?).getD undef=.slice (some ⟨gq,oq,none⟩) (m+1) qc:=(hsl 8 46 (hde 0 _ rfl rfl) rfl).trans (hJ.out.fv 8 _ rfl (hde 0 _ rfl rfl))
      clear hde hdj hev hsl hun hJ0 hdi
      go_simp
      exact hJ.out.step (by decide) (by decide) (.inl rfl)
     | 10,_ =>
      obtain rfl:=Option.some.inj ho
      intro a9 dn vals wx hJ0 hdi hde hdj hev hsl hun
      have hJ:=Lib.hid hJ0
      rw [if_pos (wanted_none rfl)]
      have f47:(a9.tmps[47]?).getD undef=.int .i64 ((m:Int)+1):=(hsl 9 47 (hde 0 _ rfl rfl) rfl).trans (hJ.out.fv 9 _ rfl (hde 0 _ rfl rfl))
      clear hde hdj hev hsl hun hJ0 hdi
      go_simp
      exact hJ.out.step (by decide) (by decide) (.inl rfl)
     | 11,_ =>
      obtain rfl:=Option.some.inj ho
      intro a9 dn vals wx hJ0 hdi hde hdj hev hsl hun
      have hJ:=Lib.hid hJ0
      rw [if_pos (wanted_none rfl)]
      have f45:(a9.tmps[45]?).getD undef=.slice (some ⟨gq,oq,none⟩) (m+1) qc:=(hsl 7 45 (hde 0 _ rfl rfl) rfl).trans (hJ.out.fv 7 _ rfl (hde 0 _ rfl rfl))
      have f48:(a9.tmps[48]?).getD undef=.int .i64 (m:Nat):=(hsl 10 48 (hde 1 _ rfl rfl) rfl).trans (hJ.out.fv 10 _ rfl (hde 1 _ rfl rfl))
      clear hde hdj hev hsl hun hJ0 hdi
      go_simp
      exact hJ.out.step (by decide) (by decide) (.inl rfl)
     | 12,_ =>
      obtain rfl:=Option.some.inj ho
      intro a9 dn vals wx hJ0 hdi hde hdj hev hsl hun
      have hJ:=Lib.hid hJ0
      rw [if_pos (wanted_none rfl)]
      have f49:(a9.tmps[49]?).getD undef=.pointer (some ⟨gq,oq+m,none⟩):=(hsl 11 49 (hde 0 _ rfl rfl) rfl).trans (hJ.out.fv 11 _ rfl (hde 0 _ rfl rfl))
      have hbw:=hJ.out.below HB5.out
      have cc:=cell_later k1 hbw
      clear hbw
      clear hde hdj hev hsl hun hJ0 hdi
      go_simp
      exact hJ.out.step (by decide) (by decide) (.inl rfl)
     | 13,_ =>
      obtain rfl:=Option.some.inj ho
      intro a9 dn vals wx hJ0 hdi hde hdj hev hsl hun
      have hJ:=Lib.hid hJ0
      rw [if_pos (wanted_none rfl)]
      have f50:(a9.tmps[50]?).getD undef=strV ql:=(hsl 12 50 (hde 0 _ rfl rfl) rfl).trans (hJ.out.fv 12 _ rfl (hde 0 _ rfl rfl))
      clear hde hdj hev hsl hun hJ0 hdi
      go_simp
      refine (CN1.out wx).mono ?_
      rintro e w9 ⟨rfl,hw9⟩
      subst hw9
      exact ⟨_,rfl,hJ.out.step (by decide) (by decide) (.inl rfl)⟩
     | 14,_ =>
      obtain rfl:=Option.some.inj ho
      intro a9 dn vals wx hJ0 hdi hde hdj hev hsl hun
      have hJ:=Lib.hid hJ0
      rw [if_pos (wanted_none rfl)]
      have f40:(a9.tmps[40]?).getD undef=strV p1:=(hsl 2 40 (hde 0 _ rfl rfl) rfl).trans (hJ.out.fv 2 _ rfl (hde 0 _ rfl rfl))
      have f44:(a9.tmps[44]?).getD undef=.int .i64 N0:=(hsl 6 44 (hde 1 _ rfl rfl) rfl).trans (hJ.out.fv 6 _ rfl (hde 1 _ rfl rfl))
      have f51:(a9.tmps[51]?).getD undef=.int .i64 N1:=(hsl 13 51 (hde 2 _ rfl rfl) rfl).trans (hJ.out.fv 13 _ rfl (hde 2 _ rfl rfl))
      clear hde hdj hev hsl hun hJ0 hdi
      go_simp
      exact hJ.out.step (by decide) (by decide) (.inl rfl)
     | 15,_ =>
      obtain rfl:=Option.some.inj ho
      intro a9 dn vals wx hJ0 hdi hde hdj hev hsl hun
      have hJ:=Lib.hid hJ0
      rw [if_pos (wanted_none rfl)]
      have n16:Hid (dn 16=false):=hdj 16 0 _ _ rfl rfl rfl rfl
      obtain rfl:=hJ.out.w0 hdi
      have HF:=Lib.hid (hJ.out.alloc n16.out rfl)
      clear hde hdj hev hsl hun hJ0 hdi
      go_simp
      exact HF.out
     | 16,_ =>
      obtain rfl:=Option.some.inj ho
      intro a9 dn vals wx hJ0 hdi hde hdj hev hsl hun
      have hJ:=Lib.hid hJ0
      rw [if_pos (wanted_none rfl)]
      have f8:(a9.tmps[8]?).getD undef=.pointer (some ⟨w4.heap.size,0,none⟩):=(hsl 15 8 (hde 0 _ rfl rfl) rfl).trans (hJ.out.fv 15 _ rfl (hde 0 _ rfl rfl))
      have f52:(a9.tmps[52]?).getD undef=.agg #[strV p1,.int .i64 N0,.int .i64 N1]:=(hsl 14 52 (hde 1 _ rfl rfl) rfl).trans (hJ.out.fv 14 _ rfl (hde 1 _ rfl rfl))
      have HDE:=hde 0 _ rfl rfl
      obtain rfl:=hJ.out.w1 (hde 0 _ rfl rfl) hdi
      have HF:=Lib.hid (fun x => hJ.out.store (x:=x) HDE rfl)
      clear hde hdj hev hsl hun hJ0 hdi
      go_simp
      rw [← HW5.out]
      exact HF.out _
    ·intro dn vals wx hall hJ
     have g0:=hJ.fv 0 _ rfl (hall 0 (by decide))
     have g1:=hJ.fv 1 _ rfl (hall 1 (by decide))
     have g2:=hJ.fv 2 _ rfl (hall 2 (by decide))
     have g3:=hJ.fv 3 _ rfl (hall 3 (by decide))
     have g4:=hJ.fv 4 _ rfl (hall 4 (by decide))
     have g5:=hJ.fv 5 _ rfl (hall 5 (by decide))
     have g6:=hJ.fv 6 _ rfl (hall 6 (by decide))
     have g7:=hJ.fv 7 _ rfl (hall 7 (by decide))
     have g8:=hJ.fv 8 _ rfl (hall 8 (by decide))
     have g9:=hJ.fv 9 _ rfl (hall 9 (by decide))
     have g10:=hJ.fv 10 _ rfl (hall 10 (by decide))
     have g11:=hJ.fv 11 _ rfl (hall 11 (by decide))
     have g12:=hJ.fv 12 _ rfl (hall 12 (by decide))
     have g13:=hJ.fv 13 _ rfl (hall 13 (by decide))
     have g14:=hJ.fv 14 _ rfl (hall 14 (by decide))
     have g15:=hJ.fv 15 _ rfl (hall 15 (by decide))
     rw [hJ.w2 (hall 16 (by decide))]
     simp only [putDs,Act.put,Nat.zero_add,Nat.reduceAdd,List.setIfInBounds_toArray,List.set_cons_succ,List.set_cons_zero,g0,g1,g2,g3,g4,g5,g6,g7,g8,g9,g10,g11,g12,g13,g14,g15]
     clear g0 g1 g2 g3 g4 g5 g6 g7 g8 g9 g10 g11 g12 g13 g14 g15 hJ hall
     obtain ⟨z0,z1,z2,g2,k5⟩:=HZ5.out
     clear k0 k1 f1 b3 b7 HW5
     by_cases hst:ql=[42]
     ·obtain rfl:Hi=1073741825:=by rw [HHI.out,if_pos hst]
      have te:(ql == [42])=true:=by rw [beq_iff_eq]; exact hst
      obtain ⟨W6,hW6⟩:∃ W6,W6=W5.setCell ⟨w4.heap.size,2,none⟩ (.int .i64 1073741825):=⟨_,rfl⟩
      have y0:W6.cell? ⟨w4.heap.size,0,none⟩=some (strV p1):=by rw [hW6,World.cell?_setCell_other _ _ _ _ (fun e => by injection e with _ e; cases e)]; exact z0
      have y1:W6.cell? ⟨w4.heap.size,1,none⟩=some (.int .i64 N0):=by rw [hW6,World.cell?_setCell_other _ _ _ _ (fun e => by injection e with _ e; cases e)]; exact z1
      have y2:W6.cell? ⟨w4.heap.size,2,none⟩=some (.int .i64 1073741825):=by rw [hW6]; exact World.cell?_setCell_same _ _ _ z2
      have HB6:Hid (Below w4.heap.size w4 W6):=by rw [hW6]; exact HB5.out.setCell (p:=⟨w4.heap.size,2,none⟩) (Nat.le_refl _) _
      have HY6:=Lib.hid (And.intro y0 (And.intro y1 y2))
      clear hst y0 y1 y2 HHI
      go_upto_region 12 with (fail)
      rw [← hW6]
      clear hW6 z0 z1 z2 g2 k5
      obtain ⟨y0,y1,y2⟩:=HY6.out
      have HM6:=Lib.hid (HM4.out.later HB6.out)
      have HS6:=Lib.hid (HS4.out.later HB6.out)
      have hrow:=HM6.out.dm.row
      have c0:=HM6.out.c0
      have hw6:W0.heap.size≤W6.heap.size:=Nat.le_trans HB4.out.size HB6.out.size
      have hln:=HLN.out.1
      have hjL:=HI.out.1
      go_wp2_with (at_builtin; refine wpList_append_lies _ (by rfl) _ _ 22 (by rfl) W0.heap.size 74 j1 (.agg #[.string ⟨#[]⟩,.int .i64 0,.int .i64 0]) 3 32 Tryz.underlying22 hj1 hy1 hz1 ht1 rfl (by decide) _ x.dims.length (x.dims.flatMap cellsDim) (by rfl) (hrow.alloc _) ⟨W6.heap.size,0,none⟩ 1 1 [strV p1,.int .i64 N0,.int .i64 1073741825] (by rfl) (by rfl) (lit_at W6 [strV p1,.int .i64 N0,.int .i64 1073741825] 74) (by simp [Value.oneCell']) (by omega) (by unfold maxLen; omega) (by omega) (by simp; omega) (W6.heap.size+1) (by simp) ?_)
      intro g7 cp7 w7 hown hgrow hat hlt6
      have hba:=below_alloc W6 (.cells #[strV p1,.int .i64 N0,.int .i64 1073741825] 74)
      have ho:OwD W0.heap.size w7 (.slice (some ⟨g7,0,none⟩) (x.dims.length+1) cp7) (x.dims ++ [⟨p1,N0,1073741825⟩]):=OwR.snoc hown
      have HMD:=Lib.hid ((HM6.out.later hba).setD hgrow ho)
      have HB8:Hid (∀ u,Below W0.heap.size W0 (w7.setCell ⟨W0.heap.size,0,none⟩ u)):=fun u => ((below_keep (below_keep HB4.out HB6.out) hba).grown hgrow (by simp; omega) (fun k e => (hrow.lt k e).1)).setCell (p:=⟨W0.heap.size,0,none⟩) (Nat.le_refl _) u
      have HS8:Hid (∀ u,StrT (w7.setCell ⟨W0.heap.size,0,none⟩ u) (.slice (some ⟨gs,os,none⟩) L.length sc) L):=fun u => (((HS6.out.later hba).kept hgrow (fun r e => (HM6.out.later hba).dm.tag r e) (by decide)).set HMD.out.tg (by decide) _ _)
      have d0:=HMD.out.c
      have e0:=HMD.out.f
      clear hown hgrow hat hlt6 hba ho hrow c0 y0 y1 y2 hln hjL hw6
      go_wp2
      exact ⟨⟨j+1,_,_,_,⟨x.dims ++ [DimT.mk p1 N0 1073741825],x.attrs,x.cells⟩,HI.out.1,by go_num,HLN2.out,HGN.out,HMD.out.out,HB8.out _,HS8.out _⟩,HI.out.2⟩
     ·obtain rfl:Hi=N1:=by rw [HHI.out,if_neg hst]
      have te:(ql == [42])=false:=by rw [beq_eq_false_iff_ne]; exact hst
      obtain ⟨W6,hW6⟩:∃ W6,W6=W5:=⟨_,rfl⟩
      have HB6:Hid (Below w4.heap.size w4 W6):=by rw [hW6]; exact HB5.out
      have HY6:Hid (W6.cell? ⟨w4.heap.size,0,none⟩=some (strV p1)∧W6.cell? ⟨w4.heap.size,1,none⟩=some (.int .i64 N0)∧W6.cell? ⟨w4.heap.size,2,none⟩=some (.int .i64 Hi)):=by rw [hW6]; exact ⟨z0,z1,z2⟩
      clear hst HHI
      go_upto_region 12 with (fail)
      rw [← hW6]
      clear hW6 z0 z1 z2 g2 k5
      obtain ⟨y0,y1,y2⟩:=HY6.out
      have HM6:=Lib.hid (HM4.out.later HB6.out)
      have HS6:=Lib.hid (HS4.out.later HB6.out)
      have hrow:=HM6.out.dm.row
      have c0:=HM6.out.c0
      have hw6:W0.heap.size≤W6.heap.size:=Nat.le_trans HB4.out.size HB6.out.size
      have hln:=HLN.out.1
      have hjL:=HI.out.1
      go_wp2_with (at_builtin; refine wpList_append_lies _ (by rfl) _ _ 22 (by rfl) W0.heap.size 74 j1 (.agg #[.string ⟨#[]⟩,.int .i64 0,.int .i64 0]) 3 32 Tryz.underlying22 hj1 hy1 hz1 ht1 rfl (by decide) _ x.dims.length (x.dims.flatMap cellsDim) (by rfl) (hrow.alloc _) ⟨W6.heap.size,0,none⟩ 1 1 [strV p1,.int .i64 N0,.int .i64 Hi] (by rfl) (by rfl) (lit_at W6 [strV p1,.int .i64 N0,.int .i64 Hi] 74) (by simp [Value.oneCell']) (by omega) (by unfold maxLen; omega) (by omega) (by simp; omega) (W6.heap.size+1) (by simp) ?_)
      intro g7 cp7 w7 hown hgrow hat hlt6
      have hba:=below_alloc W6 (.cells #[strV p1,.int .i64 N0,.int .i64 Hi] 74)
      have ho:OwD W0.heap.size w7 (.slice (some ⟨g7,0,none⟩) (x.dims.length+1) cp7) (x.dims ++ [⟨p1,N0,Hi⟩]):=OwR.snoc hown
      have HMD:=Lib.hid ((HM6.out.later hba).setD hgrow ho)
      have HB8:Hid (∀ u,Below W0.heap.size W0 (w7.setCell ⟨W0.heap.size,0,none⟩ u)):=fun u => ((below_keep (below_keep HB4.out HB6.out) hba).grown hgrow (by simp; omega) (fun k e => (hrow.lt k e).1)).setCell (p:=⟨W0.heap.size,0,none⟩) (Nat.le_refl _) u
      have HS8:Hid (∀ u,StrT (w7.setCell ⟨W0.heap.size,0,none⟩ u) (.slice (some ⟨gs,os,none⟩) L.length sc) L):=fun u => (((HS6.out.later hba).kept hgrow (fun r e => (HM6.out.later hba).dm.tag r e) (by decide)).set HMD.out.tg (by decide) _ _)
      have d0:=HMD.out.c
      have e0:=HMD.out.f
      clear hown hgrow hat hlt6 hba ho hrow c0 y0 y1 y2 hln hjL hw6
      go_wp2
      exact ⟨⟨j+1,_,_,_,⟨x.dims ++ [DimT.mk p1 N0 Hi],x.attrs,x.cells⟩,HI.out.1,by go_num,HLN2.out,HGN.out,HMD.out.out,HB8.out _,HS8.out _⟩,HI.out.2⟩
   ·obtain ⟨gf,of,y0,ef,hy0,f0⟩:=HF3.out.list.at 0 (by simp)
    subst ef
    obtain ⟨gf1,of1,y1,ef,hy1',f1⟩:=HF3.out.list.at 1 (by simp)
    injection ef with ef
    injection ef with ef1 ef2
    subst ef1 ef2
    obtain ⟨gf1,of1,y2,ef,hy2',f2⟩:=HF3.out.list.at 2 (by simp)
    injection ef with ef
    injection ef with ef1 ef2
    subst ef1 ef2
    simp only [List.getElem?_cons_zero,List.getElem?_cons_succ,Option.some.injEq] at hy0 hy1' hy2'
    subst hy0 hy1' hy2'
    unfold StrR at f0 f1 f2
    rw [Nat.zero_mul,Nat.add_zero] at f0
    rw [Nat.one_mul] at f1
    rw [Nat.mul_one] at f2
    obtain ⟨Y,hY⟩:∃ Y,Y=(tyO p2).getD 0:=⟨_,rfl⟩
    have HY:=Lib.hid hY
    have HGN:Hid (X=guessF ⟨x.dims,x.attrs ++ [⟨p1,Y⟩],x.cells⟩ (L.drop (j+1))):=by
     show _=_
     rw [HGG.out,HGL.out,if_neg (by rintro ⟨-,h⟩; cases h),if_pos ⟨rfl,rfl⟩,hY]
     rfl
    have HLN2:Hid (x.dims.length≤j+1∧(x.attrs ++ [(⟨p1,Y⟩:AttrT)]).length≤j+1∧x.cells.length≤j+1):=by show _∧_; have:=HLN.out; rw [List.length_append,List.length_singleton]; omega
    obtain ⟨W4,hW4,hb4,hs4,hx4⟩:=blk_at w3 [strV p1,.int .i64 0] 81
    have HB4:=Lib.hid hb4
    obtain ⟨z,zf,-⟩:=hx4 W4 (Below.refl _ _)
    have HZ4:Hid (W4.cell? ⟨w3.heap.size,0,none⟩=some (strV p1)∧W4.cell? ⟨w3.heap.size,1,none⟩=some (.int .i64 (tyK p2 1))∧W4.frozen? ⟨w3.heap.size,1,none⟩=false):=⟨z 0 _ rfl,by rw [tyK_one]; exact z 1 _ rfl,zf 1⟩
    have HF0:=Lib.hid f2
    clear hY hb4 hs4 hx4 z zf HGG HGL
    go_upto_region 15 with (fail)
    rw [← hW4]
    clear hW4 f0 f1 f2
    go_wp2
    go_loopw [10] (fun iv wz => ∃ k:Int,iv=.int .i64 k∧Hid (1≤k∧k≤5)∧Hid (wz.cell? ⟨w3.heap.size,0,none⟩=some (strV p1)∧wz.cell? ⟨w3.heap.size,1,none⟩=some (.int .i64 (tyK p2 k))∧wz.frozen? ⟨w3.heap.size,1,none⟩=false)∧Below w3.heap.size w3 wz) (fun iv _ => 5 - (intOf iv).toNat)
    case atStart => exact ⟨1,rfl,⟨by decide,by decide⟩,HZ4.out,HB4.out⟩
    case round =>
     obtain ⟨k,rfl,HK,HZZ,hbz⟩:=hrel
     have HBZ:=Lib.hid hbz
     obtain ⟨z0,z1,g1⟩:=HZZ.out
     by_cases hk4:k≤4
     ·have f2:=cell_later HF0.out hbz
      have CT:=Lib.hid (fun w1 => wordR_any k w1 (by have:=HK.out.1; omega) hk4)
      obtain ⟨T,hT⟩:∃ T,T=wordT k:=⟨_,rfl⟩
      rw [← hT] at CT
      have HT:=Lib.hid hT
      have s1:IntKind.i64.wrap (k+1)=k+1:=IntWalk.i64_in _ (by have:=HK.out.1; omega)
      have HK2:Hid ((1≤k+1∧k+1≤5)∧5 - (k+1).toNat<5 - k.toNat):=by show _∧_; have:=HK.out.1; omega
      have HK4:Hid (k≤4):=hk4
      have hls:=World.block_lt_of_cell? _ _ z0
      have hlf:=World.block_lt_of_cell? _ _ f2
      clear hT hbz HZZ
      by_cases he:T=p2
      ·have HZN:Hid (∀ wq,Below wr.heap.size wr wq→wq.cell? ⟨w3.heap.size,0,none⟩=some (strV p1)∧wq.cell? ⟨w3.heap.size,1,none⟩=some (.int .i64 (tyK p2 k))∧wq.frozen? ⟨w3.heap.size,1,none⟩=false):=fun wq h => ⟨cell_later z0 h,cell_later z1 h,(h.frozen (p:=⟨w3.heap.size,1,none⟩) hls).trans g1⟩
       have HTK:Hid (tyK p2 (k+1)=k):=tyK_hit HK.out.1 hk4 (by rw [← HT.out,he])
       have te:(T == p2)=true:=by rw [beq_iff_eq]; exact he
       have HTP:=Lib.hid he
       clear he
       go_wp2_with fail
       go_region_law ((refine step_wp rfl ?_; unfold Oper.wp; go_simp; go_at_call 38; refine (CT.out _).mono ?_; rintro e wq ⟨rfl,hb5⟩; have HBQ:Hid (Below wr.heap.size wr wq):=below_keep (Below.refl _ _).drew hb5; obtain ⟨t0,t1,t2⟩:=HZN.out wq HBQ.out; have f3:=cell_later f2 HBQ.out; clear hb5))
       all_goals
        have HZF:Hid ((wq.setCell ⟨w3.heap.size,1,none⟩ (.int .i64 k)).cell? ⟨w3.heap.size,0,none⟩=some (strV p1)∧(wq.setCell ⟨w3.heap.size,1,none⟩ (.int .i64 k)).cell? ⟨w3.heap.size,1,none⟩=some (.int .i64 (tyK p2 (k+1)))∧(wq.setCell ⟨w3.heap.size,1,none⟩ (.int .i64 k)).frozen? ⟨w3.heap.size,1,none⟩=false):=by
         refine ⟨?_,?_,by rw [World.frozen?_setCell]; exact t2⟩
         ·rw [World.cell?_setCell_other _ _ _ _ (fun e => by injection e with _ e; cases e)]; exact t0
         ·rw [HTK.out]; exact World.cell?_setCell_same _ _ _ t1
        have HBF:Hid (Below w3.heap.size w3 (wq.setCell ⟨w3.heap.size,1,none⟩ (.int .i64 k))):=(below_keep HBZ.out HBQ.out).setCell (p:=⟨w3.heap.size,1,none⟩) (Nat.le_refl _) _
        clear f3 t0
        go_wp2
        exact ⟨⟨k+1,rfl,HK2.out.1,HZF.out,HBF.out⟩,HK2.out.2⟩
      ·have HZN:Hid (∀ wq,Below wr.heap.size wr wq→wq.cell? ⟨w3.heap.size,0,none⟩=some (strV p1)∧wq.cell? ⟨w3.heap.size,1,none⟩=some (.int .i64 (tyK p2 (k+1)))∧wq.frozen? ⟨w3.heap.size,1,none⟩=false):=fun wq h => ⟨cell_later z0 h,by rw [tyK_miss (by rw [← HT.out]; exact he)]; exact cell_later z1 h,(h.frozen (p:=⟨w3.heap.size,1,none⟩) hls).trans g1⟩
       have te:(T == p2)=false:=by rw [beq_eq_false_iff_ne]; exact he
       clear he
       go_wp2_with fail
       go_region_law ((refine step_wp rfl ?_; unfold Oper.wp; go_simp; go_at_call 38; refine (CT.out _).mono ?_; rintro e wq ⟨rfl,hb5⟩; have HBQ:Hid (Below wr.heap.size wr wq):=below_keep (Below.refl _ _).drew hb5; have f3:=cell_later f2 HBQ.out; clear hb5))
       all_goals
        clear f3
        go_wp2
        exact ⟨⟨k+1,rfl,HK2.out.1,HZN.out _ HBQ.out,below_keep HBZ.out HBQ.out⟩,HK2.out.2⟩
     ·obtain rfl:k=5:=by have:=HK.out.2; omega
      rw [tyK_five,← HY.out] at z1
      have HM4:=Lib.hid (HM3.out.later hbz)
      clear hk4 HK HZZ HF0 HY
      have hrow:=HM4.out.at'.row
      have c1:=HM4.out.c1
      have hw4:W0.heap.size≤wr.heap.size:=Nat.le_trans HB3.out.size HBZ.out.size
      have hln:=HLN.out.2.1
      have hjL:=HI.out.1
      clear hbz
      go_wp2_with (at_builtin; refine wpList_append_lies _ (by rfl) _ _ 23 (by rfl) W0.heap.size 81 j2 (.agg #[.string ⟨#[]⟩,.int .i64 0]) 2 24 Tryz.underlying23 hj2 hy2 hz2 ht2 rfl (by decide) _ x.attrs.length (x.attrs.flatMap cellsAttr) (by rfl) (hrow.alloc _) ⟨wr.heap.size,0,none⟩ 1 1 [strV p1,.int .i64 Y] (by rfl) (by rfl) (lit_at wr [strV p1,.int .i64 Y] 81) (by simp [Value.oneCell']) (by omega) (by unfold maxLen; omega) (by omega) (by simp; omega) (wr.heap.size+1) (by simp) ?_)
      intro g7 cp7 w7 hown hgrow hat hlt6
      have hba:=below_alloc wr (.cells #[strV p1,.int .i64 Y] 81)
      have ho:OwA W0.heap.size w7 (.slice (some ⟨g7,0,none⟩) (x.attrs.length+1) cp7) (x.attrs ++ [⟨p1,Y⟩]):=OwR.snoc hown
      have HMD:=Lib.hid ((HM4.out.later hba).setA hgrow ho)
      have HB8:Hid (∀ u,Below W0.heap.size W0 (w7.setCell ⟨W0.heap.size,1,none⟩ u)):=fun u => ((below_keep (below_keep HB3.out HBZ.out) hba).grown hgrow (by simp; omega) (fun k e => (hrow.lt k e).1)).setCell (p:=⟨W0.heap.size,1,none⟩) (Nat.le_refl _) u
      have HS8:Hid (∀ u,StrT (w7.setCell ⟨W0.heap.size,1,none⟩ u) (.slice (some ⟨gs,os,none⟩) L.length sc) L):=fun u => (((HS3.out.later (below_keep HBZ.out hba)).kept hgrow (fun r e => (HM4.out.later hba).at'.tag r e) (by decide)).set HMD.out.tg (by decide) _ _)
      have d0:=HMD.out.c
      have e0:=HMD.out.f
      clear hown hgrow hat hlt6 hba ho hrow c1 z0 z1 g1 hln hjL hw4
      go_wp2
      exact ⟨⟨j+1,_,_,_,⟨x.dims,x.attrs ++ [AttrT.mk p1 Y],x.cells⟩,HI.out.1,by go_num,HLN2.out,HGN.out,HMD.out.out,HB8.out _,HS8.out _⟩,HI.out.2⟩
   ·have HGL2:Hid (guessL x l=if l=[] then x else ⟨x.dims,x.attrs,x.cells ++ [cellG l]⟩):=by show _=_; rw [HGL.out,if_neg hn1,if_neg hn2]
    clear hn1 hn2 HGL
    by_cases hle:l=[]
    ·have tl:(l != ([]:List UInt8))=false:=by rw [hle]; rfl
     have tl2:(l == ([]:List UInt8))=true:=by rw [hle]; rfl
     have tl3:l.isEmpty=true:=by rw [hle]; rfl
     have HGN:Hid (X=guessF x (L.drop (j+1))):=by show _=_; rw [HGG.out,HGL2.out,if_pos hle]
     have HLN2:Hid (x.dims.length≤j+1∧x.attrs.length≤j+1∧x.cells.length≤j+1):=by show _∧_; have:=HLN.out; omega
     have hr3:=HR3.out
     clear hle HGG HGL2
     rcases hend with t1 | ⟨p0,p1,p2,rfl,t2,t3⟩
     ·go_wp2
      exact ⟨⟨j+1,_,_,_,x,HI.out.1,by go_num,HLN2.out,HGN.out,HM3.out,HB3.out,HS3.out⟩,HI.out.2⟩
     ·obtain ⟨gf,of,y,ef,hy,hry⟩:=HF3.out.list.at 0 (by simp)
      subst ef
      simp only [List.getElem?_cons_zero,Option.some.injEq] at hy
      subst hy
      unfold StrR at hry
      rw [Nat.zero_mul,Nat.add_zero] at hry
      go_wp2
      exact ⟨⟨j+1,_,_,_,x,HI.out.1,by go_num,HLN2.out,HGN.out,HM3.out,HB3.out,HS3.out⟩,HI.out.2⟩
    ·have tl:(l != ([]:List UInt8))=true:=by rw [bne_iff_ne]; exact hle
     have tl2:(l == ([]:List UInt8))=false:=by rw [beq_eq_false_iff_ne]; exact hle
     have tl3:l.isEmpty=false:=by cases l with | nil => exact absurd rfl hle | cons a b => rfl
     obtain ⟨c,hc⟩:∃ c,c=cellG l:=⟨_,rfl⟩
     have CC:Hid (∀ w1,Calls Tryz.prog 93 #[strV l] w1 (RetCh c w1)):=fun w1 => by
      rw [hc]
      exact cellR_any ⟨l.toArray⟩ w1 (by have:=HLE.out; simpa [ByteArray.size] using this)
     have HGN:Hid (X=guessF ⟨x.dims,x.attrs,x.cells ++ [c]⟩ (L.drop (j+1))):=by show _=_; rw [HGG.out,HGL2.out,if_neg hle,hc]
     have HLN2:Hid (x.dims.length≤j+1∧x.attrs.length≤j+1∧(x.cells ++ [c]).length≤j+1):=by show _∧_; have:=HLN.out; rw [List.length_append,List.length_singleton]; omega
     have hr3:=HR3.out
     have c2:=HM3.out.c2
     have hln:=HLN.out.2.2
     have hjL:=HI.out.1
     have hw0:W0.heap.size≤w3.heap.size:=HB3.out.size
     clear hle hc HGG HGL2
     have hlast:((F.length:Int) == 3)=false ∨ ∃ p0 p1 p2,F=[p0,p1,p2]∧(p0 == [100,105,109])=false∧(p0 == [97,116,116,114])=false:=hend
     clear hend
     rcases hlast with t1 | ⟨p0,p1,p2,rfl,t2,t3⟩
     ·go_wp2_with fail
      go_region_law ((first
       | (refine step_append_lies _ (by rfl) _ _ 24 (by rfl) W0.heap.size 62 j3 (.agg #[.slice none 0 0,.slice none 0 0]) 2 48 Tryz.underlying24 hj3 hy3 hz3 ht3 rfl (by decide) _ x.cells.length (us.flatMap fun u => [u.1,u.2]) (by rfl) (hrow.alloc _) ⟨wq.heap.size,0,none⟩ 1 1 [.slice b1' c.co.length m1,.slice b2' c.vals.length m2] (by rfl) (by rfl) (lit_at wq [.slice b1' c.co.length m1,.slice b2' c.vals.length m2] 62) (by simp [Value.oneCell']) (by omega) (by unfold maxLen; omega) (by omega) (by simp; omega) (wq.heap.size+1) (by simp) ?_; intro g7 cp7 w7 hown hgrow hat hlt6; have hba:=below_alloc wq (.cells #[.slice b1' c.co.length m1,.slice b2' c.vals.length m2] 62); have ho:CellsO W0.heap.size w7 (.slice (some ⟨g7,0,none⟩) (x.cells.length+1) cp7) (x.cells ++ [c]):=CellsO.snoc HUX.out.1 (hrow.alloc _) (fun i c u hc hu => (HUX.out.2 i c u hc hu).later hba) hown hgrow (HCE.out.later hba); have HMD:=Lib.hid ((HMQ.out.later hba).setC hgrow ho); have HB8:Hid (∀ u,Below W0.heap.size W0 (w7.setCell ⟨W0.heap.size,2,none⟩ u)):=fun u => ((below_keep (below_keep HB3.out HBQ.out) hba).grown hgrow (by simp; omega) (fun k e => (hrow.lt k e).1)).setCell (p:=⟨W0.heap.size,2,none⟩) (Nat.le_refl _) u; have HS8:Hid (∀ u,StrT (w7.setCell ⟨W0.heap.size,2,none⟩ u) (.slice (some ⟨gs,os,none⟩) L.length sc) L):=fun u => (((HS3.out.later (below_keep HBQ.out hba)).kept hgrow (fun r e => (HMQ.out.later hba).ce.tag r e) (by decide)).set HMD.out.tg (by decide) _ _); have d0:=HMD.out.c; have e0:=HMD.out.f; clear hown hgrow hat hlt6 hba ho)
       | (refine step_wp rfl ?_; unfold Oper.wp; go_simp; go_at_call 93; refine (CC.out _).mono ?_; rintro e wq ⟨u1,u2,rfl,hce,hb5⟩; have HBQ:Hid (Below w3.heap.size w3 wq):=below_keep (Below.refl _ _).drew hb5; have HMQ:=Lib.hid (HM3.out.later HBQ.out); have HCE:=Lib.hid (hce.base hw0); obtain ⟨b1',m1,k1,-⟩:=hce.i.shape; obtain ⟨b2',m2,k2,-⟩:=hce.v.shape; subst k1 k2; obtain ⟨us,hul,hrow,hux⟩:=HMQ.out.ce.ex; have HUX:=Lib.hid (And.intro hul hux); have q0:=HMQ.out.c2; have q9:=cell_later hr3 HBQ.out; have ql:W0.heap.size<wq.heap.size:=HMQ.out.tag.lt; have qn:W0.heap.size ≠ wq.heap.size:=Nat.ne_of_lt ql; have hwq:W0.heap.size≤wq.heap.size:=Nat.le_of_lt ql; clear hb5 hce hul hux)))
      all_goals
       clear hrow q0 q9 ql qn c2 hr3 hwq
       go_wp2
       exact ⟨⟨j+1,_,_,_,⟨x.dims,x.attrs,x.cells ++ [c]⟩,HI.out.1,by go_num,HLN2.out,HGN.out,HMD.out.out,HB8.out _,HS8.out _⟩,HI.out.2⟩
     ·obtain ⟨gf,of,y,ef,hy,hry⟩:=HF3.out.list.at 0 (by simp)
      subst ef
      simp only [List.getElem?_cons_zero,Option.some.injEq] at hy
      subst hy
      unfold StrR at hry
      rw [Nat.zero_mul,Nat.add_zero] at hry
      go_wp2_with fail
      go_region_law ((first
       | (refine step_append_lies _ (by rfl) _ _ 24 (by rfl) W0.heap.size 62 j3 (.agg #[.slice none 0 0,.slice none 0 0]) 2 48 Tryz.underlying24 hj3 hy3 hz3 ht3 rfl (by decide) _ x.cells.length (us.flatMap fun u => [u.1,u.2]) (by rfl) (hrow.alloc _) ⟨wq.heap.size,0,none⟩ 1 1 [.slice b1' c.co.length m1,.slice b2' c.vals.length m2] (by rfl) (by rfl) (lit_at wq [.slice b1' c.co.length m1,.slice b2' c.vals.length m2] 62) (by simp [Value.oneCell']) (by omega) (by unfold maxLen; omega) (by omega) (by simp; omega) (wq.heap.size+1) (by simp) ?_; intro g7 cp7 w7 hown hgrow hat hlt6; have hba:=below_alloc wq (.cells #[.slice b1' c.co.length m1,.slice b2' c.vals.length m2] 62); have ho:CellsO W0.heap.size w7 (.slice (some ⟨g7,0,none⟩) (x.cells.length+1) cp7) (x.cells ++ [c]):=CellsO.snoc HUX.out.1 (hrow.alloc _) (fun i c u hc hu => (HUX.out.2 i c u hc hu).later hba) hown hgrow (HCE.out.later hba); have HMD:=Lib.hid ((HMQ.out.later hba).setC hgrow ho); have HB8:Hid (∀ u,Below W0.heap.size W0 (w7.setCell ⟨W0.heap.size,2,none⟩ u)):=fun u => ((below_keep (below_keep HB3.out HBQ.out) hba).grown hgrow (by simp; omega) (fun k e => (hrow.lt k e).1)).setCell (p:=⟨W0.heap.size,2,none⟩) (Nat.le_refl _) u; have HS8:Hid (∀ u,StrT (w7.setCell ⟨W0.heap.size,2,none⟩ u) (.slice (some ⟨gs,os,none⟩) L.length sc) L):=fun u => (((HS3.out.later (below_keep HBQ.out hba)).kept hgrow (fun r e => (HMQ.out.later hba).ce.tag r e) (by decide)).set HMD.out.tg (by decide) _ _); have d0:=HMD.out.c; have e0:=HMD.out.f; clear hown hgrow hat hlt6 hba ho)
       | (refine step_wp rfl ?_; unfold Oper.wp; go_simp; go_at_call 93; refine (CC.out _).mono ?_; rintro e wq ⟨u1,u2,rfl,hce,hb5⟩; have HBQ:Hid (Below w3.heap.size w3 wq):=below_keep (Below.refl _ _).drew hb5; have HMQ:=Lib.hid (HM3.out.later HBQ.out); have HCE:=Lib.hid (hce.base hw0); obtain ⟨b1',m1,k1,-⟩:=hce.i.shape; obtain ⟨b2',m2,k2,-⟩:=hce.v.shape; subst k1 k2; obtain ⟨us,hul,hrow,hux⟩:=HMQ.out.ce.ex; have HUX:=Lib.hid (And.intro hul hux); have q0:=HMQ.out.c2; have q9:=cell_later hr3 HBQ.out; have ql:W0.heap.size<wq.heap.size:=HMQ.out.tag.lt; have qn:W0.heap.size ≠ wq.heap.size:=Nat.ne_of_lt ql; have hwq:W0.heap.size≤wq.heap.size:=Nat.le_of_lt ql; clear hb5 hce hul hux)))
      all_goals
       clear hrow q0 q9 ql qn c2 hr3 hwq
       go_wp2
       exact ⟨⟨j+1,_,_,_,⟨x.dims,x.attrs,x.cells ++ [c]⟩,HI.out.1,by go_num,HLN2.out,HGN.out,HMD.out.out,HB8.out _,HS8.out _⟩,HI.out.2⟩
  ·obtain rfl:j=L.length:=by omega
   have hgf:=HGF.out
   rw [List.drop_length,guessF] at hgf
   subst hgf
   obtain ⟨y,yf,yt⟩:=HX0.out wr hb
   have r0:=y 0 _ rfl
   have r1:=y 1 _ rfl
   have r2:=y 2 _ rfl
   have f0:=yf 0
   have f1:=yf 1
   have f2:=yf 2
   have HYT:=Lib.hid yt
   have c0:=hmk.c0
   have c1:=hmk.c1
   have c2:=hmk.c2
   have b1:¬ (L.length:Int)<(L.length:Int):=by omega
   clear hj hmk hb hst hlt y yf yt HX0 HGF HX
   go_wp2
   refine bodyPost_ret (by simp [results,Tryz.results46,go_sem,r0,r1,r2]; try rfl) rfl ?_
   exact ⟨_,_,_,_,rfl,ArrO.set3 ⟨HMK.out.dm,HMK.out.at',HMK.out.ce⟩ HYT.out,below_res (below_keep HB0.out HB.out) _ _ _⟩
theorem itS_len {n:Int} (h1 : -1073741825≤n) (h2:n≤1073741825):(itS n).length≤12:=by
 have hl:(dec n.natAbs).length≤11:=dec_len_le _ 11 (by decide) (by omega)
 unfold itS
 split
 ·rw [List.length_cons]; omega
 ·omega
theorem print_len {v:Va} (h:rightV v=true):(printV v).length≤40:=by
 rcases right_cases h with ⟨r,h1,h2,rfl⟩ | ⟨b,rfl⟩ | ⟨q,hq,rfl⟩ | ⟨s,h1,h2,rfl⟩
 ·rw [print_miss,List.length_cons]
  have:=dec3 (n:=r.natAbs) (by omega); omega
 ·rw [print_bool]; cases b <;> decide
 ·rw [print_rat]; have:=ratS_len hq; omega
 ·rw [print_text,List.length_append,List.length_cons,List.length_singleton]
  have:=dbl_len s; omega
theorem join_snoc (c:UInt8) (p:List UInt8):∀ (l:List (List UInt8)),joinL c (l ++ [p])=joinL c l ++ (if l=[] then [] else [c]) ++ p
 | [] => by simp [joinL]
 | [q] => by simp [joinL]
 | q :: r :: l => by
  have ih:=join_snoc c p (r :: l)
  rw [List.cons_append,join_cons c q (by simp),ih,join_cons c q (by simp)]
  simp
theorem vaS_snoc (v:Va):∀ (l:List Va),vaS (l ++ [v])=vaS l ++ (if l=[] then [] else [44,32]) ++ printV v
 | [] => by simp [vaS]
 | [u] => by simp [vaS]
 | u :: r :: l => by
  have ih:=vaS_snoc v (r :: l)
  rw [List.cons_append,vaS_cons u (by simp),ih,vaS_cons u (by simp)]
  simp
def coP (l:List Int) (i:Nat):List UInt8:=joinL 32 ((l.take i).map itS)
theorem coP_succ {l:List Int} {i:Nat} {n:Int} (h:l[i]? = some n):coP l (i+1)=coP l i ++ (if 0<i then [32] else []) ++ itS n:=by
 have hi:i<l.length:=(List.getElem?_eq_some_iff.1 h).1
 unfold coP
 rw [take_snoc' h,List.map_append,List.map_singleton,join_snoc]
 congr 2
 by_cases h0:0<i
 ·rw [if_pos h0,if_neg]
  intro e
  have:=congrArg List.length e
  rw [List.length_map,List.length_take,List.length_nil] at this
  omega
 ·rw [if_neg h0,if_pos]
  have:i=0:=by omega
  subst this; rfl
def vaP (l:List Va) (i:Nat):List UInt8:=if i=0 then [] else 32 :: vaS (l.take i)
theorem vaP_succ {l:List Va} {i:Nat} {v:Va} (h:l[i]? = some v):vaP l (i+1)=vaP l i ++ (if 0<i then [44] else []) ++ 32 :: printV v:=by
 have hi:i<l.length:=(List.getElem?_eq_some_iff.1 h).1
 unfold vaP
 rw [if_neg (by omega),take_snoc' h,vaS_snoc]
 by_cases h0:0<i
 ·have ht:l.take i ≠ []:=fun e => by
   have:=congrArg List.length e
   rw [List.length_take,List.length_nil] at this
   omega
  rw [if_neg ht,if_neg (show ¬ i=0 by omega),if_pos h0]
  simp
 ·have:i=0:=by omega
  subst this
  simp [vaS]
theorem lineB_eq {c:CellT} (h:c.vals ≠ []):cellB c=coP c.co c.co.length ++ 58 :: vaP c.vals c.vals.length:=by
 unfold cellB coP vaP
 rw [List.take_length,List.take_length,if_neg (fun e => h (List.length_eq_zero_iff.1 e))]
theorem join_len (c:UInt8) (m:Nat):∀ (l:List (List UInt8)),(∀ p ∈ l,p.length≤m)→(joinL c l).length≤(m+1) * l.length
 | [],_ => by simp [joinL]
 | [p],h => by have:=h p (by simp); rw [joinL,List.length_singleton]; omega
 | p :: q :: l,h => by
  have ih:=join_len c m (q :: l) (fun x hx => h x (List.mem_cons_of_mem _ hx))
  have hp:=h p (by simp)
  rw [join_cons c p (by simp),List.length_append,List.length_cons,List.length_cons (a:=p),Nat.mul_add]
  omega
theorem vaS_len:∀ (l:List Va),(∀ v ∈ l,rightV v=true)→(vaS l).length≤42 * l.length
 | [],_ => by simp [vaS]
 | [v],h => by have:=print_len (h v (by simp)); rw [vaS,List.length_singleton]; omega
 | v :: u :: l,h => by
  have ih:=vaS_len (u :: l) (fun x hx => h x (List.mem_cons_of_mem _ hx))
  have hp:=print_len (h v (by simp))
  rw [vaS_cons v (by simp),List.length_append,List.length_cons,List.length_cons,List.length_cons (a:=v)]
  omega
theorem cellB_len {c:CellT} (_h0:c.vals ≠ []) (hi:∀ n ∈ c.co,-1073741824≤n∧n≤1073741824) (hv:∀ v ∈ c.vals,rightV v=true) (hl1:c.co.length≤4) (hl2:c.vals.length≤6):(cellB c).length≤350:=by
 have h1:=join_len 32 12 (c.co.map itS) (fun p hp => by
  obtain ⟨n,hn,rfl⟩:=List.mem_map.1 hp
  have:=hi n hn
  exact itS_len (by omega) (by omega))
 have h2:=vaS_len c.vals hv
 rw [List.length_map] at h1
 unfold cellB
 rw [List.length_append,List.length_cons,List.length_cons]
 omega
theorem bapp (a b:List UInt8):(⟨a.toArray⟩:ByteArray) ++ ⟨b.toArray⟩=⟨(a ++ b).toArray⟩:=by
 apply ByteArray.ext
 simp [ByteArray.data_append]
set_option maxHeartbeats 6400000 in
set_option maxRecDepth 100000 in
theorem lineR_any (c:CellT) (v1 v2:Value) (w:World) (h1:Ints w v1 c.co) (h2:Vals w v2 c.vals) (h0:c.vals ≠ []) (hi:∀ n ∈ c.co,-1073741824≤n∧n≤1073741824) (hv:∀ v ∈ c.vals,rightV v=true) (hl1:c.co.length≤4) (hl2:c.vals.length≤6) :
  Calls Tryz.prog 39 #[.agg #[v1,v2]] w (RetV' (strV (cellB c ++ [10])) w):=by
 have HI:=Lib.hid hi
 have HV:=Lib.hid hv
 have HE:=Lib.hid (lineB_eq h0)
 have H12:=Lib.hid (And.intro h1 h2)
 obtain ⟨p1,k1,rfl,-⟩:=h1.shape
 obtain ⟨p2,k2,rfl,-⟩:=h2.shape
 obtain ⟨W0,hW0,hb0,hs0,hx0⟩:∃ W1,W1=w.alloc (.cells #[.slice p1 c.co.length k1,.slice p2 c.vals.length k2] 62)∧Below w.heap.size w W1∧w.heap.size<W1.heap.size∧∀ w',Below W1.heap.size W1 w'→w'.cell? ⟨w.heap.size,0,none⟩=some (.slice p1 c.co.length k1)∧w'.cell? ⟨w.heap.size,1,none⟩=some (.slice p2 c.vals.length k2):=by
  refine ⟨_,rfl,below_alloc _ _,by simp,fun w' hb => ⟨?_,?_⟩⟩ <;> (rw [hb.cell (p:=⟨w.heap.size,_,none⟩) (by simp),World.cell?_alloc_at _ _ _ _ rfl]; rfl)
 have HB0:=Lib.hid hb0
 have HX0:=Lib.hid hx0
 clear h1 h2 h0 hi hv hb0 hs0 hx0
 go_enter Tryz.func39,Tryz.ntmps39
 go_upto_region 3 with (fail)
 rw [← hW0]
 clear hW0
 go_loopw [3,4] (fun sv iv wr => ∃ i:Nat,i≤c.co.length∧iv=.int .i64 (i:Nat)∧sv=strV (coP c.co i)∧Hid ((coP c.co i).length≤20 * i)∧Below W0.heap.size W0 wr) (fun _ iv _ => c.co.length - (intOf iv).toNat)
 case atStart => exact ⟨0,Nat.zero_le _,rfl,rfl,(by show _≤_; unfold coP; simp [joinL]),Below.refl _ _⟩
 case round =>
  obtain ⟨i,hi,rfl,rfl,HLS,hb⟩:=hrel
  have HB:=Lib.hid hb
  obtain ⟨c0,c1⟩:=HX0.out wr hb
  by_cases hlt:i<c.co.length
  ·obtain ⟨g,o,n,ea,hn,hr⟩:=(H12.out.1.later IntR.lasts (below_keep HB0.out hb)).at i hlt
   subst ea
   rw [Nat.mul_one] at hr
   unfold IntR at hr
   have hni:=HI.out n (List.mem_of_getElem? hn)
   have CD:=Lib.hid (fun w1 => digitsR_any n w1 (by omega) (by omega))
   have HSU:=Lib.hid (coP_succ hn)
   have hln:=itS_len (n:=n) (by omega) (by omega)
   have hls:=HLS.out
   have HLS2:Hid ((coP c.co (i+1)).length≤20 * (i+1)):=by
    show _≤_
    rw [HSU.out,List.length_append,List.length_append]
    have:(if 0<i then [32] else ([]:List UInt8)).length≤1:=by split <;> simp
    omega
   have HI2:Hid (i+1≤c.co.length∧c.co.length - (i+1)<c.co.length - i):=by show _∧_; omega
   obtain ⟨T,hT⟩:∃ T,T=coP c.co i:=⟨_,rfl⟩
   obtain ⟨U,hU⟩:∃ U,U=itS n:=⟨_,rfl⟩
   rw [← hU] at CD HSU hln
   rw [← hT] at hls HSU ⊢
   have b0:(0:Int)≤(i:Int):=by omega
   have b1:(i:Int)<(c.co.length:Int):=by omega
   have s1:¬ 9223372036854775807<T.length+1:=by omega
   have s2:¬ 9223372036854775807<T.length+1+U.length:=by omega
   have s3:¬ 9223372036854775807<T.length+U.length:=by omega
   clear hi hn hb hni hT hU hln hls HLS hlt
   by_cases h0:i=0
   ·subst h0
    rw [Nat.add_zero] at hr
    go_wp2_with fail
    refine (CD.out wr).mono ?_
    rintro e w1 ⟨rfl,hb⟩
    have HB1:=Lib.hid (below_keep HB.out hb)
    clear hb CD hr c0 c1
    go_wp2
    exact ⟨⟨1,HI2.out.1,by go_num,by rw [HSU.out,bapp,if_neg (by decide),List.append_nil],HLS2.out,HB1.out⟩,HI2.out.2⟩
   ·have hip:(0:Int)<(i:Int):=by omega
    have HIP:Hid (0<i):=by show _<_; omega
    clear h0
    go_wp2_with fail
    refine (CD.out wr).mono ?_
    rintro e w1 ⟨rfl,hb⟩
    have HB1:=Lib.hid (below_keep HB.out hb)
    clear hb CD hr c0 c1
    go_wp2
    exact ⟨⟨i+1,HI2.out.1,by go_num,by rw [HSU.out,bapp,bapp,if_pos HIP.out],HLS2.out,HB1.out⟩,HI2.out.2⟩
  ·obtain rfl:i=c.co.length:=by omega
   have b1:¬ (c.co.length:Int)<(c.co.length:Int):=by omega
   obtain ⟨T,hT⟩:∃ T,T=coP c.co c.co.length:=⟨_,rfl⟩
   have hls:=HLS.out
   have HE2:=HE.out
   rw [← hT] at hls HE2 ⊢
   have HEE:=Lib.hid HE2
   have hls2:T.length≤100:=by omega
   have s1:¬ 9223372036854775807<T.length+1:=by omega
   clear hT hls HLS HE2 hi hlt hb
   go_wp2
   go_loopw [3,5] (fun sv iv wz => ∃ k:Nat,k≤c.vals.length∧iv=.int .i64 (k:Nat)∧sv=strV (T ++ [58] ++ vaP c.vals k)∧Hid ((vaP c.vals k).length≤50 * k)∧Below W0.heap.size W0 wz) (fun _ iv _ => c.vals.length - (intOf iv).toNat)
   case atStart => exact ⟨0,Nat.zero_le _,rfl,by rw [bapp]; unfold vaP; rw [if_pos rfl,List.append_nil],(by show _≤_; unfold vaP; simp),HB.out⟩
   case round =>
    clear HB c0 c1 b1 s1
    obtain ⟨k,hk,rfl,rfl,HLK,hb⟩:=hrel
    have HB:=Lib.hid hb
    obtain ⟨c0,c1⟩:=HX0.out wr hb
    by_cases hlt:k<c.vals.length
    ·obtain ⟨g,o,x,ea,hx,hr⟩:=(H12.out.2.later ValR.lasts (below_keep HB0.out hb)).at k hlt
     subst ea
     obtain ⟨z0,z1,z2,z3⟩:=hr
     have hxr:=HV.out x (List.mem_of_getElem? hx)
     have CP:Hid (∀ w1,Calls Tryz.prog 84 #[x.v] w1 (RetV' (.tuple #[strV (printV x),.int .i64 0]) w1)):=fun w1 => by
      have:=rprint_any x w1 (by
       rcases right_cases hxr with ⟨r,h1,h2,rfl⟩ | ⟨b,rfl⟩ | ⟨q,hq,rfl⟩ | ⟨s,h1,h2,rfl⟩
       ·simp
       ·simp
       ·simp
       ·simp only; omega)
      unfold printE at this
      rw [if_pos hxr,if_pos hxr] at this
      exact this
     have HSU:=Lib.hid (vaP_succ hx)
     have hpl:=print_len hxr
     have hlk:=HLK.out
     have HLK2:Hid ((vaP c.vals (k+1)).length≤50 * (k+1)):=by
      show _≤_
      rw [HSU.out,List.length_append,List.length_append,List.length_cons]
      have:(if 0<k then [44] else ([]:List UInt8)).length≤1:=by split <;> simp
      omega
     have HI2:Hid (k+1≤c.vals.length∧c.vals.length - (k+1)<c.vals.length - k):=by show _∧_; omega
     obtain ⟨S,hS⟩:∃ S,S=T ++ [58] ++ vaP c.vals k:=⟨_,rfl⟩
     obtain ⟨U,hU⟩:∃ U,U=printV x:=⟨_,rfl⟩
     have hsl:S.length≤1000:=by rw [hS,List.length_append,List.length_append,List.length_singleton]; omega
     rw [← hU] at CP HSU hpl
     have HSS:=Lib.hid hS
     rw [← hS]
     have b0:(0:Int)≤(k:Int):=by omega
     have b1:(k:Int)<(c.vals.length:Int):=by omega
     have s1:¬ 9223372036854775807<S.length+1:=by omega
     have s2:¬ 9223372036854775807<S.length+1+1:=by omega
     have s3:¬ 9223372036854775807<S.length+1+1+U.length:=by omega
     have s4:¬ 9223372036854775807<S.length+1+U.length:=by omega
     obtain ⟨kd,nu,de,st⟩:=x
     simp only at z0 z1 z2 z3
     clear hk hx hb hxr hS hU hpl hlk hsl HLK hlt
     by_cases h0:k=0
     ·subst h0
      rw [Nat.zero_mul,Nat.add_zero] at z0 z1 z2 z3
      go_wp2_with fail
      refine (CP.out wr).mono ?_
      rintro e w1 ⟨rfl,hb⟩
      have HB1:=Lib.hid (below_keep HB.out hb)
      clear hb CP z0 z1 z2 z3 c0 c1
      go_wp2
      exact ⟨⟨1,HI2.out.1,by go_num,by rw [HSU.out,HSS.out,bapp,bapp,if_neg (by decide)]; simp,HLK2.out,HB1.out⟩,HI2.out.2⟩
     ·have hip:(0:Int)<(k:Int):=by omega
      have HIP:Hid (0<k):=by show _<_; omega
      clear h0
      go_wp2_with fail
      refine (CP.out wr).mono ?_
      rintro e w1 ⟨rfl,hb⟩
      have HB1:=Lib.hid (below_keep HB.out hb)
      clear hb CP z0 z1 z2 z3 c0 c1
      go_wp2
      exact ⟨⟨k+1,HI2.out.1,by go_num,by rw [HSU.out,HSS.out,bapp,bapp,bapp,if_pos HIP.out]; simp,HLK2.out,HB1.out⟩,HI2.out.2⟩
    ·obtain rfl:k=c.vals.length:=by omega
     have b1:¬ (c.vals.length:Int)<(c.vals.length:Int):=by omega
     have hlk:=HLK.out
     obtain ⟨S,hS⟩:∃ S,S=T ++ [58] ++ vaP c.vals c.vals.length:=⟨_,rfl⟩
     have hsl:S.length≤1000:=by rw [hS,List.length_append,List.length_append,List.length_singleton]; omega
     have HSS:Hid (cellB c=S):=by show _=_; rw [HEE.out,hS]; simp
     rw [← hS]
     have s1:¬ 9223372036854775807<S.length+1:=by omega
     clear hS hlk hsl HLK hk hlt hb
     go_wp2
     go_ret
     refine ⟨?_,below_keep HB0.out HB.out⟩
     rw [HSS.out]
     show Ending.returned (.string ((⟨S.toArray⟩:ByteArray) ++ ⟨[10].toArray⟩))=_
     rw [bapp]
def linesF (l:List (List UInt8)):List UInt8:=l.flatMap (· ++ [10])
theorem linesF_snoc (l:List (List UInt8)) (p:List UInt8):linesF (l ++ [p])=linesF l ++ (p ++ [10]):=by
 unfold linesF
 rw [List.flatMap_append]; simp
theorem prA_parts (x:ArrT):prA x=linesF (x.dims.map dimL) ++ linesF (x.attrs.map attrL) ++ linesF (x.cells.map cellB):=by
 unfold prA linesA linesF
 rw [List.flatMap_append,List.flatMap_append]
def dP (x:ArrT) (i:Nat):List UInt8:=linesF ((x.dims.take i).map dimL)
def aP (x:ArrT) (i:Nat):List UInt8:=linesF ((x.attrs.take i).map attrL)
def cP (x:ArrT) (i:Nat):List UInt8:=linesF ((x.cells.take i).map cellB)
theorem dP_succ {x:ArrT} {i:Nat} {d:DimT} (h:x.dims[i]? = some d):dP x (i+1)=dP x i ++ (dimL d ++ [10]):=by
 unfold dP
 rw [take_snoc' h,List.map_append,List.map_singleton,linesF_snoc]
theorem aP_succ {x:ArrT} {i:Nat} {a:AttrT} (h:x.attrs[i]? = some a):aP x (i+1)=aP x i ++ (attrL a ++ [10]):=by
 unfold aP
 rw [take_snoc' h,List.map_append,List.map_singleton,linesF_snoc]
theorem cP_succ {x:ArrT} {i:Nat} {c:CellT} (h:x.cells[i]? = some c):cP x (i+1)=cP x i ++ (cellB c ++ [10]):=by
 unfold cP
 rw [take_snoc' h,List.map_append,List.map_singleton,linesF_snoc]
theorem hiS_len {h:Int} (h1 : -1073741825≤h) (h2:h≤1073741825):(hiS h).length≤12:=by
 unfold hiS
 split
 ·simp
 ·exact itS_len h1 h2
theorem wordT_len (k:Int):(wordT k).length≤4:=by
 unfold wordT
 split
 ·decide
 ·split
  ·decide
  ·split
   ·decide
   ·split <;> decide
structure RowBy (n:Nat) (w:World) (v:Value) (l:List UInt8):Prop where
 row:w.ownsRow n 5 1 v l.length (Lib.byteCells l)
theorem RowBy.later {n:Nat} {w w':World} {v:Value} {l:List UInt8} (h:RowBy n w v l) (hb:Below w.heap.size w w'):RowBy n w' v l :=
 ⟨h.row.kept (row:=none) (grown_of_below hb none) (by cases v.ownBlock <;> simp)⟩
theorem RowBy.app {n m:Nat} {w:World} {v:Value} {l k:List UInt8} (hm:m=l.length+(⟨k.toArray⟩:ByteArray).size) (h:w.ownsRow n 5 1 v m (Lib.byteCells l ++ Lib.strCells ⟨k.toArray⟩)):RowBy n w v (l ++ k):=by
 have e1:Lib.strCells ⟨k.toArray⟩=Lib.byteCells k:=rfl
 have e2:(⟨k.toArray⟩:ByteArray).size=k.length:=by simp [ByteArray.size]
 refine ⟨?_⟩
 rw [Lib.byteCells_append,List.length_append,← e2,← hm]
 rw [e1] at h
 exact h
theorem RowBy.conv {n:Nat} {w:World} {v:Value} {l:List UInt8} (h:RowBy n w v l) (h0:0<l.length):∃ g cap,v=.slice (some ⟨g,0,none⟩) l.length cap∧(convert 70 9 (.slice (some ⟨g,0,none⟩) l.length cap)).run Tryz.prog w=.ok (.string ⟨l.toArray⟩) w:=by
 rcases id h.row.2 with ⟨rfl,he⟩ | ⟨g,cap,cur,rfl,-⟩
 ·omega
 ·refine ⟨g,cap,rfl,run_convert_bytes_back (P:=Tryz.prog) w 70 9 5 ⟨g,0,none⟩ cap l Tryz.underlying70 Tryz.underlying5 Tryz.underlying9 fun j hj => ?_⟩
  have hc:=h.row.cells (g:=g) rfl j (.int .u8 (l[j].toNat:Int)) (by simp [Lib.byteCells,hj])
  exact hc
set_option maxHeartbeats 16000000 in
set_option maxRecDepth 100000 in
theorem printR_ok (x:ArrT) (vd va vc:Value) (w:World) (hx:ArrR w vd va vc x) (hs:StrD x.dims) (hsa:StrA x.attrs) (hsc:StrC x.cells) (h:checkE x=0) :
  Calls Tryz.prog 8 #[.agg #[vd,va,vc]] w (RetV' (.tuple #[strV (prA x),.int .i64 0]) w):=by
 have CC:=Lib.hid (fun w1 (hb:Below w.heap.size w w1) => h ▸ rarr_any x vd va vc w1 (hx.later hb) hs hsa hsc)
 have HG:=Lib.hid (check_goodT h)
 have HX:=Lib.hid hx
 obtain ⟨p1,k1,rfl,-⟩:=hx.dims.shape
 obtain ⟨p2,k2,rfl,-⟩:=hx.attrs.shape
 obtain ⟨p3,k3,rfl,-⟩:=hx.cells.shape
 obtain ⟨W0,hW0,hb0,hx0⟩:∃ W1,W1=w.alloc (.cells #[.slice p1 x.dims.length k1,.slice p2 x.attrs.length k2,.slice p3 x.cells.length k3] 26)∧Below w.heap.size w W1∧∀ w',Below W1.heap.size W1 w'→w'.cell? ⟨w.heap.size,0,none⟩=some (.slice p1 x.dims.length k1)∧w'.cell? ⟨w.heap.size,1,none⟩=some (.slice p2 x.attrs.length k2)∧w'.cell? ⟨w.heap.size,2,none⟩=some (.slice p3 x.cells.length k3):=by
  refine ⟨_,rfl,below_alloc _ _,fun w' hb => ⟨?_,?_,?_⟩⟩ <;> (rw [hb.cell (p:=⟨w.heap.size,_,none⟩) (by simp),World.cell?_alloc_at _ _ _ _ rfl]; rfl)
 have HB0:=Lib.hid hb0
 have HX0:=Lib.hid hx0
 obtain ⟨z0,z1,z2⟩:=hx0 W0 (Below.refl _ _)
 clear hx hs hsa hsc h hb0 hx0
 go_enter Tryz.func8,Tryz.ntmps8
 let KF:(Ending→World→Prop)→Exit→Act→World→Prop:=bodyPost Tryz.prog Tryz.f8
 go_upto_region 1 with (fail)
 rw [← hW0]
 clear hW0
 go_wp2_with fail
 refine (CC.out W0 HB0.out).mono ?_
 rintro e w1 ⟨rfl,hb⟩
 have HB1:=Lib.hid hb
 clear hb CC z0 z1 z2
 go_wp2
 go_loopw [4,5] (fun sv iv wr => ∃ i:Nat,i≤x.dims.length∧iv=.int .i64 (i:Nat)∧sv=strV (dP x i)∧Hid ((dP x i).length≤100 * i)∧Below W0.heap.size W0 wr) (fun _ iv _ => x.dims.length - (intOf iv).toNat)
 case atStart => exact ⟨0,Nat.zero_le _,rfl,rfl,(by show _≤_; unfold dP linesF; simp),HB1.out⟩
 case round =>
  obtain ⟨i,hi,rfl,rfl,HLS,hb⟩:=hrel
  have HB:=Lib.hid hb
  obtain ⟨c0,c1,c2⟩:=HX0.out wr hb
  have hdl:=HG.out.dl
  by_cases hlt:i<x.dims.length
  ·obtain ⟨gd,od,d,ea,hd,hr⟩:=(HX.out.dims.later DimR.lasts (below_keep HB0.out hb)).at i hlt
   subst ea
   obtain ⟨x0,x1,x2⟩:=hr
   have hdm:=List.mem_of_getElem? hd
   obtain ⟨hn1,hn2⟩:=HG.out.dn d hdm
   obtain ⟨d1,d2,d3,d4⟩:=HG.out.db d hdm
   have HSU:=Lib.hid (dP_succ hd)
   obtain ⟨nm,lo,hi9⟩:=d
   simp only at x0 x1 x2 hn2 d1 d2 d3 d4
   have C1:=Lib.hid (fun w1 => digitsR_any lo w1 (by omega) (by omega))
   have C2:=Lib.hid (fun w1 => digitsR_any hi9 w1 (by omega) (by omega))
   have l1:=itS_len (n:=lo) (by omega) (by omega)
   have l2:=hiS_len (h:=hi9) (by omega) (by omega)
   have hls:=HLS.out
   have HI2:Hid (i+1≤x.dims.length∧x.dims.length - (i+1)<x.dims.length - i):=by show _∧_; omega
   obtain ⟨T,hT⟩:∃ T,T=dP x i:=⟨_,rfl⟩
   obtain ⟨U1,hU1⟩:∃ U,U=itS lo:=⟨_,rfl⟩
   obtain ⟨U2,hU2⟩:∃ U,U=hiS hi9:=⟨_,rfl⟩
   have hsu:dP x (i+1)=T ++ [100,105,109,32] ++ nm ++ [32] ++ U1 ++ [58] ++ U2 ++ [10]:=by
    rw [HSU.out,hT,hU1,hU2]
    simp [dimL,dimB]
   have HSV:=Lib.hid hsu
   rw [← hU1] at C1 l1
   rw [← hU2] at l2
   rw [← hT] at hls ⊢
   have HLS2:Hid ((dP x (i+1)).length≤100 * (i+1)):=by
    show _≤_
    rw [hsu]
    simp only [List.length_append,List.length_cons,List.length_nil]
    omega
   have b0:(0:Int)≤(i:Int):=by omega
   have b1:(i:Int)<(x.dims.length:Int):=by omega
   have s1:¬ 9223372036854775807<T.length+4:=by omega
   have s2:¬ 9223372036854775807<T.length+4+nm.length:=by omega
   have s3:¬ 9223372036854775807<T.length+4+nm.length+1:=by omega
   have s4:¬ 9223372036854775807<T.length+4+nm.length+1+U1.length:=by omega
   have s5:¬ 9223372036854775807<T.length+4+nm.length+1+U1.length+1:=by omega
   have s6:¬ 9223372036854775807<T.length+4+nm.length+1+U1.length+1+U2.length:=by omega
   have s7:¬ 9223372036854775807<T.length+4+nm.length+1+U1.length+1+U2.length+1:=by omega
   clear hi hd hb hlt hdm hT hU1 hls HLS HSU hsu hn1
   by_cases hst:hi9=1073741825
   ·subst hst
    have hU:U2=[42]:=by rw [hU2]; rfl
    subst hU
    have s6':¬ 9223372036854775807<T.length+4+nm.length+1+U1.length+1+1:=by simpa using s6
    have s7':¬ 9223372036854775807<T.length+4+nm.length+1+U1.length+1+1+1:=by simpa using s7
    clear hU2 C2 d1 d2 d3 d4 l2 s6 s7
    go_wp2_with fail
    go_region_law ((refine step_wp rfl ?_; unfold Oper.wp; go_simp; go_at_call 37; refine (C1.out _).mono ?_; rintro e wq ⟨rfl,hb5⟩; have HBQ:Hid (Below wr.heap.size wr wq):=below_keep (Below.refl _ _).drew hb5; obtain ⟨y0,y1,y2⟩:=HX0.out wq (below_keep HB.out HBQ.out); have q0:=cell_later x0 HBQ.out; have q1:=cell_later x1 HBQ.out; clear hb5))
    all_goals
     clear C1 s1 s2 s3 s4 s5 c0 c1 c2 x0 x1 x2 y0 y1 y2 q0 q1
     go_wp2
     exact ⟨⟨i+1,HI2.out.1,by go_num,by rw [HSV.out,bapp,bapp,bapp,bapp,bapp,bapp,bapp],HLS2.out,below_keep HB.out HBQ.out⟩,HI2.out.2⟩
   ·have hst':(hi9 != 1073741825)=true:=by rw [bne_iff_ne]; exact hst
    have hU:U2=itS hi9:=by rw [hU2]; unfold hiS; rw [if_neg hst]
    rw [← hU] at C2
    clear hU2 hU d1 d2 d3 d4 l2 l1 hst
    go_wp2_with fail
    refine (C2.out wr).mono ?_
    rintro e w2 ⟨rfl,hb2⟩
    have HB2:=Lib.hid (below_keep HB.out hb2)
    have x0:=cell_later x0 hb2
    have x1:=cell_later x1 hb2
    obtain ⟨c0,c1,c2⟩:=HX0.out w2 HB2.out
    clear hb2 C2 x2
    go_wp2_with fail
    go_region_law ((refine step_wp rfl ?_; unfold Oper.wp; go_simp; go_at_call 37; refine (C1.out _).mono ?_; rintro e wq ⟨rfl,hb5⟩; have HBQ:Hid (Below w2.heap.size w2 wq):=below_keep (Below.refl _ _).drew hb5; obtain ⟨y0,y1,y2⟩:=HX0.out wq (below_keep HB2.out HBQ.out); have q0:=cell_later x0 HBQ.out; have q1:=cell_later x1 HBQ.out; clear hb5))
    all_goals
     clear C1 s1 s2 s3 s4 s5 s6 s7 c0 c1 c2 x0 x1 y0 y1 y2 q0 q1
     go_wp2
     exact ⟨⟨i+1,HI2.out.1,by go_num,by rw [HSV.out,bapp,bapp,bapp,bapp,bapp,bapp,bapp],HLS2.out,below_keep HB2.out HBQ.out⟩,HI2.out.2⟩
  ·obtain rfl:i=x.dims.length:=by omega
   have b1:¬ (x.dims.length:Int)<(x.dims.length:Int):=by omega
   obtain ⟨T0,hT0⟩:∃ T,T=dP x x.dims.length:=⟨_,rfl⟩
   have hls0:=HLS.out
   have HT0:=Lib.hid hT0
   rw [← hT0] at hls0 ⊢
   have hls1:T0.length≤400:=by omega
   clear hT0 hls0 HLS hi hlt hb
   go_wp2
   go_loopw [4,7] (fun sv iv wz => ∃ k:Nat,k≤x.attrs.length∧iv=.int .i64 (k:Nat)∧sv=strV (T0 ++ aP x k)∧Hid ((aP x k).length≤100 * k)∧Below W0.heap.size W0 wz) (fun _ iv _ => x.attrs.length - (intOf iv).toNat)
   case atStart => exact ⟨0,Nat.zero_le _,rfl,by unfold aP linesF; simp,(by show _≤_; unfold aP linesF; simp),HB.out⟩
   case round =>
    clear HB c0 c1 c2 b1
    obtain ⟨k,hk,rfl,rfl,HLS,hb⟩:=hrel
    have HB:=Lib.hid hb
    obtain ⟨c0,c1,c2⟩:=HX0.out wr hb
    have hal:=HG.out.al
    by_cases hlt:k<x.attrs.length
    ·obtain ⟨gd,od,a,ea,hd,hr⟩:=(HX.out.attrs.later AttrR.lasts (below_keep HB0.out hb)).at k hlt
     subst ea
     obtain ⟨x0,x1⟩:=hr
     have hdm:=List.mem_of_getElem? hd
     obtain ⟨hn1,hn2⟩:=HG.out.an a hdm
     obtain ⟨d1,d2⟩:=HG.out.at' a hdm
     have HSU:=Lib.hid (aP_succ hd)
     obtain ⟨nm,ty⟩:=a
     simp only at x0 x1 hn2 d1 d2
     have C1:=Lib.hid (fun w1 => wordR_any ty w1 (by omega) d2)
     have l1:=wordT_len ty
     have hls:=HLS.out
     have HI2:Hid (k+1≤x.attrs.length∧x.attrs.length - (k+1)<x.attrs.length - k):=by show _∧_; omega
     obtain ⟨T,hT⟩:∃ T,T=T0 ++ aP x k:=⟨_,rfl⟩
     obtain ⟨U1,hU1⟩:∃ U,U=wordT ty:=⟨_,rfl⟩
     have hsu:T0 ++ aP x (k+1)=T ++ [97,116,116,114,32] ++ nm ++ [32] ++ U1 ++ [10]:=by
      rw [HSU.out,hT,hU1]
      simp [attrL,attrB]
     have HSV:=Lib.hid hsu
     have htl:T.length≤1100:=by rw [hT,List.length_append]; omega
     rw [← hU1] at C1 l1
     have HLS2:Hid ((aP x (k+1)).length≤100 * (k+1)):=by
      show _≤_
      rw [HSU.out,List.length_append,List.length_append]
      simp only [attrL,attrB,List.length_append,List.length_cons,List.length_nil]
      rw [← hU1]
      omega
     rw [← hT]
     have b0:(0:Int)≤(k:Int):=by omega
     have b1:(k:Int)<(x.attrs.length:Int):=by omega
     have s1:¬ 9223372036854775807<T.length+5:=by omega
     have s2:¬ 9223372036854775807<T.length+5+nm.length:=by omega
     have s3:¬ 9223372036854775807<T.length+5+nm.length+1:=by omega
     have s4:¬ 9223372036854775807<T.length+5+nm.length+1+U1.length:=by omega
     have s5:¬ 9223372036854775807<T.length+5+nm.length+1+U1.length+1:=by omega
     clear hk hd hb hlt hdm hT hU1 hls HLS HSU hsu hn1 htl d1 d2 l1 hn2
     go_wp2_with fail
     go_region_law ((refine step_wp rfl ?_; unfold Oper.wp; go_simp; go_at_call 38; refine (C1.out _).mono ?_; rintro e wq ⟨rfl,hb5⟩; have HBQ:Hid (Below wr.heap.size wr wq):=below_keep (Below.refl _ _).drew hb5; obtain ⟨y0,y1,y2⟩:=HX0.out wq (below_keep HB.out HBQ.out); have q0:=cell_later x0 HBQ.out; have q1:=cell_later x1 HBQ.out; clear hb5))
     all_goals
      clear C1 s1 s2 s3 s4 s5 c0 c1 c2 x0 x1 y0 y1 y2 q0 q1
      go_wp2
      exact ⟨⟨k+1,HI2.out.1,by go_num,by rw [HSV.out,bapp,bapp,bapp,bapp,bapp],HLS2.out,below_keep HB.out HBQ.out⟩,HI2.out.2⟩
    ·obtain rfl:k=x.attrs.length:=by omega
     have b1:¬ (x.attrs.length:Int)<(x.attrs.length:Int):=by omega
     obtain ⟨T1,hT1⟩:∃ T,T=T0 ++ aP x x.attrs.length:=⟨_,rfl⟩
     have hls0:=HLS.out
     have HT1:=Lib.hid hT1
     have hls2:T1.length≤1100:=by rw [hT1,List.length_append]; omega
     have h10:0<T1.length:=by
      rw [hT1,HT0.out,List.length_append]
      unfold dP linesF
      rw [List.take_length]
      cases hdd:x.dims with
      | nil => exact absurd hdd HG.out.d0
      | cons a b => simp only [List.map_cons,List.flatMap_cons,List.length_append,List.length_cons,List.length_nil]; omega
     have HTP:=Lib.hid h10
     rw [← hT1]
     obtain ⟨i0,hi0,hz0,hz1,hz2⟩:=info_parts Tryz.Builder_Extra_155.infoByte
     have hww:W0.heap.size≤wr.heap.size:=hb.size
     have hsz1:(⟨T1.toArray⟩:ByteArray).size=T1.length:=by simp [ByteArray.size]
     clear hT1 hls0 HLS hk hlt hb hls1 h10
     go_wp2_with (at_builtin; refine Lib.wpList_append_own_string _ rfl _ _ 70 9 rfl W0.heap.size 5 i0 Tryz.underlying70 Tryz.underlying9 hi0 hz0 hz1 hz2 (.slice none 0 0) 0 [] rfl (World.ownsRow_nil _ _ _ _) ⟨T1.toArray⟩ rfl (by unfold maxLen; omega) (by omega) hww ?_)
     intro v8 w8 hown hgrow _
     have HR8:Hid (RowBy W0.heap.size w8 v8 (T1 ++ cP x 0)):=by
      have:=RowBy.app (l:=[]) (k:=T1) (by simp [ByteArray.size]) hown
      show RowBy _ _ _ _
      unfold cP linesF
      simpa using this
     have HB8:Hid (Below W0.heap.size W0 w8):=HB.out.grown hgrow hww (fun k e => by cases e)
     clear hown hgrow hsz1 hww HB c0 c1 c2 b1
     go_wp2
     go_loopw [8,9] (fun bv iv wz => ∃ k:Nat,k≤x.cells.length∧iv=.int .i64 (k:Nat)∧RowBy W0.heap.size wz bv (T1 ++ cP x k)∧Hid ((cP x k).length≤400 * k)∧Below W0.heap.size W0 wz) (fun _ iv _ => x.cells.length - (intOf iv).toNat)
     case atStart => exact ⟨0,Nat.zero_le _,rfl,HR8.out,(by show _≤_; unfold cP linesF; simp),HB8.out⟩
     case round =>
      clear HR8 HB8
      obtain ⟨k,hk,rfl,hru,HLS,hb⟩:=hrel
      have HB:=Lib.hid hb
      have HRU:=Lib.hid hru
      obtain ⟨c0,c1,c2⟩:=HX0.out wr hb
      have hcl:=HG.out.cl
      by_cases hlt:k<x.cells.length
      ·obtain ⟨gd,od,c,ea,hd,hr⟩:=(HX.out.cells.later CellR.lasts (below_keep HB0.out hb)).at k hlt
       subst ea
       obtain ⟨u1,u2,x0,x1,hc1,hc2⟩:=hr.ex
       have hdm:=List.mem_of_getElem? hd
       have CL:=Lib.hid (lineR_any c u1 u2 wr hc1 hc2 (HG.out.c0 c hdm).2 (HG.out.ci c hdm) (HG.out.cv c hdm) (HG.out.cc c hdm).1 (HG.out.cc c hdm).2)
       obtain ⟨b1',m1,k1',-⟩:=hc1.shape
       obtain ⟨b2',m2,k2',-⟩:=hc2.shape
       subst k1' k2'
       have HSU:=Lib.hid (cP_succ hd)
       have hcb:=cellB_len (HG.out.c0 c hdm).2 (HG.out.ci c hdm) (HG.out.cv c hdm) (HG.out.cc c hdm).1 (HG.out.cc c hdm).2
       have hls:=HLS.out
       have HI2:Hid (k+1≤x.cells.length∧x.cells.length - (k+1)<x.cells.length - k):=by show _∧_; omega
       obtain ⟨U,hU⟩:∃ U,U=cellB c ++ [10]:=⟨_,rfl⟩
       have hul:U.length≤400:=by rw [hU,List.length_append,List.length_singleton]; omega
       rw [← hU] at CL HSU
       have HLS2:Hid ((cP x (k+1)).length≤400 * (k+1)):=by show _≤_; rw [HSU.out,List.length_append]; omega
       obtain ⟨T,hT⟩:∃ T,T=T1 ++ cP x k:=⟨_,rfl⟩
       have HST:Hid (T1 ++ cP x (k+1)=T ++ U):=by show _=_; rw [HSU.out,hT,List.append_assoc]
       have htl:T.length≤2000000:=by rw [hT,List.length_append]; omega
       rw [← hT] at HRU
       have b0:(0:Int)≤(k:Int):=by omega
       have b1:(k:Int)<(x.cells.length:Int):=by omega
       have hsz:(⟨U.toArray⟩:ByteArray).size=U.length:=by simp [ByteArray.size]
       clear hk hd hb hlt hdm hT hU hls HLS HSU hru hr hc1 hc2 hcb
       go_wp2_with fail
       refine CL.out.mono ?_
       rintro e w1 ⟨rfl,hb1⟩
       have HB1:=Lib.hid (below_keep HB.out hb1)
       have hrow:=(HRU.out.later hb1).row
       have hww:W0.heap.size≤w1.heap.size:=HB1.out.size
       clear hb1 CL c0 c1 c2 x0 x1 HRU
       go_wp2_with (at_builtin; refine Lib.wpList_append_own_string _ rfl _ _ 70 9 rfl W0.heap.size 5 i0 Tryz.underlying70 Tryz.underlying9 hi0 hz0 hz1 hz2 _ T.length (Lib.byteCells T) rfl hrow ⟨U.toArray⟩ rfl (by unfold maxLen; omega) (by omega) hww ?_)
       intro v9 w9 hown hgrow _
       have HR9:Hid (RowBy W0.heap.size w9 v9 (T1 ++ cP x (k+1))):=by rw [HST.out]; exact RowBy.app rfl hown
       have HB9:Hid (Below W0.heap.size W0 w9):=HB1.out.grown hgrow hww (fun k e => (hrow.lt k e).1)
       clear hown hgrow hsz hrow hww
       go_wp2
       exact ⟨⟨k+1,HI2.out.1,by go_num,HR9.out,HLS2.out,HB9.out⟩,HI2.out.2⟩
      ·obtain rfl:k=x.cells.length:=by omega
       have b1:¬ (x.cells.length:Int)<(x.cells.length:Int):=by omega
       have hpa:prA x=T1 ++ cP x x.cells.length:=by
        rw [HT1.out,HT0.out,prA_parts]
        unfold dP aP cP
        rw [List.take_length,List.take_length,List.take_length]
       rw [← hpa] at hru
       obtain ⟨g,cap,e,hconv⟩:=hru.conv (by rw [hpa,List.length_append]; have:=HTP.out; omega)
       subst e
       clear hk hru HLS hb hlt hpa HRU
       go_wp2
       go_ret2
       exact ⟨rfl,below_keep HB0.out HB.out⟩
end Go.Proofs.YtdbnebhehiiakaaGreatDoor
