/- Lemmas and contracts, each under its own condition: The reference's cut and number: contracts. The reference's number: the contract. The reference's cell: the contract. The reference's Digits and word: contracts. -/
import Derived.IntWalk
import Derived.Deep.DeepCutAuto
import Derived.Deep.CutBlock
import Derived.Test.YtdbnebhehiiakaaGreatDoorG1
import Derived.Test.YtdbnebhehiiakaaGreatDoorS11
import Derived.Test.YtdbnebhehiiakaaGreatDoorS68
import Derived.Test.YtdbnebhehiiakaaGreatDoorS69
import Derived.Test.YtdbnebhehiiakaaGreatDoorS71
namespace Go.Proofs.YtdbnebhehiiakaaGreatDoor
open Go.RowKit
theorem strV_bytes (T:ByteArray):strV T.data.toList=.string T:=by
 cases T; rfl
theorem infoStrT:(Tryz.prog.info? 9).map (fun i => (i.zero,i.size,i.bytes))=some (some (.string ⟨#[]⟩),1,16):=by kernel_rfl
theorem extract_mid (s:ByteArray) (f i:Nat):(s.extract f i).data.toList=(s.data.toList.drop f).take (i - f):=by
 rw [ByteArray.data_extract,Array.toList_extract]
theorem mid_succ (s:ByteArray) {f i:Nat} (h:f≤i) (hi:i<s.size):(s.data.toList.drop f).take (i+1 - f)=(s.data.toList.drop f).take (i - f) ++ [s[i]]:=by
 have hl:i - f<(s.data.toList.drop f).length:=by rw [List.length_drop,lenB]; omega
 rw [show i+1 - f=i - f+1 by omega,List.take_succ_eq_append_getElem hl]
 congr 2
 rw [List.getElem_drop]
 have:f+(i - f)=i:=by omega
 simp only [this]
 rfl
set_option maxHeartbeats 6400000 in
set_option maxRecDepth 100000 in
theorem cutR_any (S:ByteArray) (c:UInt8) (w:World) (hc9:c ≠ 39) (hs:S.size≤20000):Calls Tryz.prog 91 #[.string S,.int .u8 (c.toNat:Nat)] w (RetSp (cutT c false [] S.data.toList) w):=by
 obtain ⟨j0,hj0,hy0,hy1,hy2⟩:=info_parts infoStrT
 obtain ⟨R,hR⟩:∃ R,R=cutT c false [] S.data.toList:=⟨_,rfl⟩
 rw [← hR]
 have HR:=Lib.hid hR
 have HC9:=Lib.hid hc9
 clear hR hc9
 go_enter Tryz.func91,Tryz.ntmps91
 go_wp2
 go_loopw [5,6,7,8] (fun ov qv fv iv wr => ∃ (i f:Nat) (q:Bool) (out:List (List UInt8)),iv=.int .i64 (i:Nat)∧fv=.int .i64 (f:Nat)∧qv=.bool q∧f≤i∧i≤S.size∧Hid (out.length≤i)∧Hid (out ++ cutT c q ((S.data.toList.drop f).take (i - f)) (S.data.toList.drop i)=R)∧OwS w.heap.size wr ov out∧Below w.heap.size w wr) (fun _ _ _ iv _ => S.size - (intOf iv).toNat)
 case atStart => exact ⟨0,0,false,[],rfl,rfl,rfl,Nat.le_refl _,Nat.zero_le _,Nat.le_refl _,by show _=_; rw [HR.out,List.drop_zero,Nat.sub_self,List.take_zero]; rfl,OwR.nil,Below.refl _ _⟩
 case round =>
  obtain ⟨i,f,q,out,rfl,rfl,rfl,hf,hi,HL,HV,ho,hb⟩:=hrel
  have HO:=Lib.hid ho
  have HB:=Lib.hid hb
  have a2:(f:Int)≤(i:Int):=by omega
  have a3:(0:Int)≤(f:Int):=by omega
  have hrow:=ho.row
  have hol:=HL.out
  have hws:w.heap.size≤wr.heap.size:=hb.size
  obtain ⟨oa,oc,hoa⟩:∃ oa oc,u5=.slice oa out.length oc:=by
   obtain ⟨oa,oc,e,-⟩:=(ho.list cellw_Str).shape
   exact ⟨oa,oc,e⟩
  by_cases hlt:i<S.size
  ·have a1:(i:Int)<(S.size:Int):=by omega
   have a4:(i:Int)≤(S.size:Int):=by omega
   have HI:Hid (i+1≤S.size∧S.size - (i+1)<S.size - i∧f≤i+1∧out.length≤i+1):=by show _∧_; have:=HL.out; omega
   have hv:=HV.out
   rw [bytes_drop S hlt,cutT] at hv
   have e39:((S[i].toNat:Int) == 39)=decide (S[i]=39):=by rw [show (39:Int)=((39:UInt8).toNat:Int) from rfl,u8_eq]
   have ecc:((S[i].toNat:Int) == (c.toNat:Int))=decide (S[i]=c):=u8_eq
   by_cases h39:S[i]=39
   ·have hnc:¬ S[i]=c:=fun e => HC9.out (by rw [← e,h39])
    rw [decide_eq_true h39] at e39
    rw [decide_eq_false hnc] at ecc
    have HN:Hid (out ++ cutT c (!q) ((S.data.toList.drop f).take (i+1 - f)) (S.data.toList.drop (i+1))=R):=by
     show _=_
     rw [mid_succ S hf hlt,← hv,if_neg (fun h => hnc h.2),show flip39 q S[i]=!q by unfold flip39; rw [if_pos h39]]
    clear HV hv h39 hnc ho hb hi hrow hol hoa
    cases q
    all_goals
     go_wp2
     exact ⟨⟨i+1,f,_,out,by go_num,rfl,rfl,HI.out.2.2.1,HI.out.1,HI.out.2.2.2,HN.out,HO.out,HB.out⟩,HI.out.2.1⟩
   ·have hfl:flip39 q S[i]=q:=by unfold flip39; rw [if_neg h39]
    rw [hfl] at hv
    rw [decide_eq_false h39] at e39
    by_cases hcc:S[i]=c
    ·rw [decide_eq_true hcc] at ecc
     cases q with
     | true =>
      have HN:Hid (out ++ cutT c true ((S.data.toList.drop f).take (i+1 - f)) (S.data.toList.drop (i+1))=R):=by
       show _=_
       rw [mid_succ S hf hlt,← hv,if_neg (fun h => by cases h.1)]
      clear HV hv h39 hcc hfl ho hb hi hrow hol hoa
      go_wp2
      exact ⟨⟨i+1,f,_,out,by go_num,rfl,rfl,HI.out.2.2.1,HI.out.1,HI.out.2.2.2,HN.out,HO.out,HB.out⟩,HI.out.2.1⟩
     | false =>
      have HN:Hid ((out ++ [(S.extract f i).data.toList]) ++ cutT c false ((S.data.toList.drop (i+1)).take (i+1 - (i+1))) (S.data.toList.drop (i+1))=R):=by
       show _=_
       rw [← hv,if_pos ⟨rfl,hcc⟩,extract_mid S f i,Nat.sub_self,List.take_zero,List.append_assoc]
       rfl
      have HLN:Hid ((out ++ [(S.extract f i).data.toList]).length≤i+1):=by show _≤_; rw [List.length_append,List.length_singleton]; have:=HL.out; omega
      subst hoa
      clear HV hv h39 hcc hfl ho hb hi
      go_wp2_with (at_builtin; refine wpList_append_lies _ (by rfl) _ _ 88 (by rfl) w.heap.size 9 j0 (.string ⟨#[]⟩) 1 16 Tryz.underlying88 hj0 hy0 hy1 hy2 rfl (by decide) _ out.length (out.flatMap cellsStr) (by rfl) (hrow.alloc _) ⟨wr.heap.size,0,none⟩ 1 1 [.string (S.extract f i)] (by rfl) (by rfl) (lit_at wr [.string (S.extract f i)] 9) (by simp [Value.oneCell']) (by omega) (by unfold maxLen; omega) (by omega) (by simp; omega) (wr.heap.size+1) (by simp) ?_)
      intro g7 cp7 w7 hown hgrow hat hlt6
      have HO7:Hid (OwS w.heap.size w7 (.slice (some ⟨g7,0,none⟩) (out.length+1) cp7) (out ++ [(S.extract f i).data.toList])):=OwR.snoc (by rw [show cellsStr (S.extract f i).data.toList=[.string (S.extract f i)] by unfold cellsStr; rw [strV_bytes]]; exact hown)
      have HB7:Hid (Below w.heap.size w w7):=(below_keep HB.out (below_alloc wr (.cells #[.string (S.extract f i)] 9))).grown hgrow (by simp; omega) (fun k e => (hrow.lt k e).1)
      clear hrow hown hgrow hat hlt6 hol hws
      go_wp2
      exact ⟨⟨i+1,i+1,_,_,by go_num,by go_num,rfl,Nat.le_refl _,HI.out.1,HLN.out,HN.out,HO7.out,HB7.out⟩,HI.out.2.1⟩
    ·rw [decide_eq_false hcc] at ecc
     have HN:Hid (out ++ cutT c q ((S.data.toList.drop f).take (i+1 - f)) (S.data.toList.drop (i+1))=R):=by
      show _=_
      rw [mid_succ S hf hlt,← hv,if_neg (fun h => hcc h.2)]
     clear HV hv h39 hcc hfl ho hb hi hrow hol hoa
     go_wp2
     exact ⟨⟨i+1,f,_,out,by go_num,rfl,rfl,HI.out.2.2.1,HI.out.1,HI.out.2.2.2,HN.out,HO.out,HB.out⟩,HI.out.2.1⟩
  ·obtain rfl:i=S.size:=by omega
   have hv:=HV.out
   have hd:S.data.toList.drop S.size=[]:=List.drop_eq_nil_of_le (by rw [lenB]; exact Nat.le_refl _)
   rw [hd,cutT] at hv
   have HN:Hid (out ++ [(S.extract f S.size).data.toList]=R):=by
    show _=_
    rw [← hv,extract_mid S f S.size]
   have a1:¬ (S.size:Int)<(S.size:Int):=by omega
   subst hoa
   clear HV hv ho hb hi hlt
   go_wp2_with (at_builtin; refine wpList_append_lies _ (by rfl) _ _ 88 (by rfl) w.heap.size 9 j0 (.string ⟨#[]⟩) 1 16 Tryz.underlying88 hj0 hy0 hy1 hy2 rfl (by decide) _ out.length (out.flatMap cellsStr) (by rfl) (hrow.alloc _) ⟨wr.heap.size,0,none⟩ 1 1 [.string (S.extract f S.size)] (by rfl) (by rfl) (lit_at wr [.string (S.extract f S.size)] 9) (by simp [Value.oneCell']) (by omega) (by unfold maxLen; omega) (by omega) (by simp; omega) (wr.heap.size+1) (by simp) ?_)
   intro g7 cp7 w7 hown hgrow hat hlt6
   have HO7:Hid (OwS w.heap.size w7 (.slice (some ⟨g7,0,none⟩) (out.length+1) cp7) R):=by
    rw [← HN.out]
    exact OwR.snoc (by rw [show cellsStr (S.extract f S.size).data.toList=[.string (S.extract f S.size)] by unfold cellsStr; rw [strV_bytes]]; exact hown)
   have HB7:Hid (Below w.heap.size w w7):=(below_keep HB.out (below_alloc wr (.cells #[.string (S.extract f S.size)] 9))).grown hgrow (by simp; omega) (fun k e => (hrow.lt k e).1)
   clear hrow hown hgrow hat hlt6 hol hws
   go_wp2
   go_ret
   exact ⟨_,rfl,⟨HO7.out.list cellw_Str,HO7.out.tag⟩,HB7.out⟩
theorem take12_drop (S:ByteArray) {i:Nat} (h:i<S.size) (h2:i<12):(S.data.toList.take 12).drop i=S[i] :: (S.data.toList.take 12).drop (i+1):=by
 have hl:i<(S.data.toList.take 12).length:=by rw [List.length_take,lenB]; omega
 rw [List.drop_eq_getElem_cons hl]
 congr 1
 rw [List.getElem_take]; rfl
theorem pow_le12 {i:Nat} (h:i≤12):(10:Nat) ^ i≤1000000000000:=by
 have:=Nat.pow_le_pow_right (n:=10) (by decide) h
 exact Nat.le_trans this (by decide)
set_option maxHeartbeats 6400000 in
set_option maxRecDepth 100000 in
theorem numberR_any (S:ByteArray) (w:World) (hs:S.size≤20000):Calls Tryz.prog 92 #[.string S] w (fun e w' => e=.returned (.int .i64 (numE S.data.toList))∧w'=w):=by
 obtain ⟨R,hR⟩:∃ R,R=numL 0 (S.data.toList.take 12):=⟨_,rfl⟩
 obtain ⟨E,hE⟩:∃ E,E=numE S.data.toList:=⟨_,rfl⟩
 rw [← hE]
 have HR:=Lib.hid hR
 have HE:Hid (E=if S.data.toList.head? = some 45 then - R else R):=by show _=_; rw [hE,hR]; rfl
 clear hR hE
 go_enter Tryz.func92,Tryz.ntmps92
 go_wp2
 go_loopw [3,4] (fun nv iv wr => ∃ (i n:Nat),iv=.int .i64 (i:Nat)∧nv=.int .i64 (n:Nat)∧i≤S.size∧i≤12∧Hid (n<10 ^ i)∧Hid (numL (n:Int) ((S.data.toList.take 12).drop i)=R)∧wr=w) (fun _ iv _ => S.size - (intOf iv).toNat)
 case atStart => exact ⟨0,0,rfl,rfl,Nat.zero_le _,by decide,(by show _<_; decide),by show _=_; rw [HR.out,List.drop_zero]; rfl,rfl⟩
 case round =>
  obtain ⟨i,n,rfl,rfl,hi,hi2,HN,HV,rfl⟩:=hrel
  by_cases hlt:i<S.size∧i<12
  ·obtain ⟨h1,h2⟩:=hlt
   have a1:(i:Int)<(S.size:Int):=by omega
   have a2:(i:Int)<12:=by omega
   have HI:Hid (i+1≤S.size∧i+1≤12∧S.size - (i+1)<S.size - i):=by show _∧_; omega
   have hv:=HV.out
   rw [take12_drop S h1 h2,numL] at hv
   have hp:=pow_le12 hi2
   have hn:=HN.out
   have hsucc:(10:Nat) ^ (i+1)=10 ^ i * 10:=Nat.pow_succ 10 i
   have hx0:0≤(S[i].toNat:Int):=by omega
   have hx9:(S[i].toNat:Int)<256:=by have:=S[i].toNat_lt; omega
   by_cases hd:isD S[i]=true
   ·have hd':=(isD_iff _).1 hd
    rw [if_pos hd] at hv
    obtain ⟨X,hX⟩:∃ X,X=S[i].toNat:=⟨_,rfl⟩
    have t1:¬ (S[i].toNat:Int)<48:=by omega
    have t2:¬ (57:Int)<(S[i].toNat:Int):=by omega
    have t3:IntKind.u8.wrap ((S[i].toNat:Int) - 48)=(S[i].toNat:Int) - 48:=by unfold IntKind.wrap IntKind.bits; simp [IntKind.signed]; omega
    have t4:IntKind.i64.wrap (10 * (n:Int))=10 * (n:Int):=IntWalk.i64_in _ (by omega)
    have t5:IntKind.i64.wrap ((S[i].toNat:Int) - 48)=(S[i].toNat:Int) - 48:=IntWalk.i64_in _ (by omega)
    have t6:IntKind.i64.wrap (10 * (n:Int)+((S[i].toNat:Int) - 48))=10 * (n:Int)+((S[i].toNat:Int) - 48):=IntWalk.i64_in _ (by omega)
    have HN2:Hid (10 * n+(S[i].toNat - 48)<10 ^ (i+1)):=by show _<_; rw [hsucc]; omega
    have hc:((10 * n+(S[i].toNat - 48):Nat):Int)=10 * (n:Int)+((S[i].toNat:Int) - 48):=by omega
    have HV2:Hid (numL ((10 * n+(S[i].toNat - 48):Nat):Int) ((S.data.toList.take 12).drop (i+1))=R):=by show _=_; rw [hc]; exact hv
    have HC:=Lib.hid hc
    clear hv hp hn hsucc hd hd' HV HN hX hc hi hi2
    go_wp2
    exact ⟨⟨i+1,10 * n+(S[i].toNat - 48),by go_num,by rw [HC.out],HI.out.1,HI.out.2.1,HN2.out,HV2.out,trivial⟩,HI.out.2.2⟩
   ·rw [if_neg hd] at hv
    have HV2:Hid (numL (n:Int) ((S.data.toList.take 12).drop (i+1))=R):=hv
    have HN2:Hid (n<10 ^ (i+1)):=by show _<_; rw [hsucc]; omega
    have hd':(S[i].toNat:Int)<48 ∨ (¬ (S[i].toNat:Int)<48∧(57:Int)<(S[i].toNat:Int)):=by
     have:¬ (48≤S[i].toNat∧S[i].toNat≤57):=fun h => hd ((isD_iff _).2 h)
     omega
    clear hv hp hn hsucc hd HV HN hi hi2
    rcases hd' with t1 | ⟨t1,t2⟩
    all_goals
     go_wp2
     exact ⟨⟨i+1,n,by go_num,rfl,HI.out.1,HI.out.2.1,HN2.out,HV2.out,trivial⟩,HI.out.2.2⟩
  ·have hd:(S.data.toList.take 12).drop i=[]:=List.drop_eq_nil_of_le (by rw [List.length_take,lenB]; omega)
   have hv:=HV.out
   rw [hd,numL] at hv
   have hp:=pow_le12 hi2
   have hn:=HN.out
   have t6:IntKind.i64.wrap (-(n:Int)) = -(n:Int):=IntWalk.i64_in _ (by omega)
   have hcase:¬ (i:Int)<(S.size:Int) ∨ ((i:Int)<(S.size:Int)∧¬ (i:Int)<12):=by omega
   have hhd:S.size=0 ∨ ∃ h:0<S.size,S.data.toList.head? = some S[0]:=by
    rcases Nat.eq_zero_or_pos S.size with h | h
    ·exact .inl h
    ·refine .inr ⟨h,?_⟩
     have:=bytes_drop S h
     rw [List.drop_zero] at this
     rw [this]; rfl
   have HEN:Hid (E=if S.data.toList.head? = some 45 then -(n:Int) else (n:Int)):=by show _=_; rw [HE.out,hv]
   clear hv hd hp hn HV HN HE hlt hi hi2 HR
   rcases hhd with h0 | ⟨h0,hh⟩
   ·have HEE:Hid (E=(n:Int)):=by
     show _=_
     rw [HEN.out,if_neg]
     have:S.data.toList=[]:=List.length_eq_zero_iff.1 (by rw [lenB]; exact h0)
     rw [this]; simp
    have s1:¬ (0:Int)<(S.size:Int):=by omega
    clear HEN
    rcases hcase with t1 | ⟨t1,t2⟩
    ·clear h0
     go_wp2
     go_ret
     exact ⟨by rw [HEE.out]; rfl,rfl⟩
    ·omega
   ·have s1:(0:Int)<(S.size:Int):=by omega
    by_cases h45:S[0]=45
    ·have HEE:Hid (E = -(n:Int)):=by show _=_; rw [HEN.out,hh,h45,if_pos rfl]
     have e45:((S[0].toNat:Int) == 45)=true:=by rw [h45]; rfl
     clear HEN hh h45
     rcases hcase with t1 | ⟨t1,t2⟩
     all_goals
      go_wp2
      go_ret
      exact ⟨by rw [HEE.out]; rfl,rfl⟩
    ·have HEE:Hid (E=(n:Int)):=by show _=_; rw [HEN.out,hh,if_neg]; intro h; injection h with h; exact h45 h
     have e45:((S[0].toNat:Int) == 45)=false:=by rw [show (45:Int)=((45:UInt8).toNat:Int) from rfl,u8_eq]; exact decide_eq_false h45
     clear HEN hh h45
     rcases hcase with t1 | ⟨t1,t2⟩
     all_goals
      go_wp2
      go_ret
      exact ⟨by rw [HEE.out]; rfl,rfl⟩
theorem cutT_part (c:UInt8):∀ (s:List UInt8) (q:Bool) (acc:List UInt8),∀ p ∈ cutT c q acc s,p.length≤acc.length+s.length
 | [],q,acc,p,h => by
  rw [cutT] at h
  simp only [List.mem_singleton] at h
  subst h; simp
 | x :: s,q,acc,p,h => by
  rw [cutT] at h
  rw [List.length_cons]
  split at h
  ·rcases List.mem_cons.1 h with rfl | h
   ·omega
   ·have:=cutT_part c s _ _ p h; simp only [List.length_nil] at this; omega
  ·have:=cutT_part c s _ _ p h
   rw [List.length_append,List.length_singleton] at this; omega
theorem cutT_count (c:UInt8):∀ (s:List UInt8) (q:Bool) (acc:List UInt8),(cutT c q acc s).length≤s.length+1
 | [],q,acc => by simp [cutT]
 | x :: s,q,acc => by
  rw [cutT,List.length_cons]
  split
  ·have:=cutT_count c s (flip39 q x) []; rw [List.length_cons]; omega
  ·have:=cutT_count c s (flip39 q x) (acc ++ [x]); omega
theorem cutT_ne (c:UInt8) (s:List UInt8) (q:Bool) (acc:List UInt8):∃ p r,cutT c q acc s=p :: r:=by
 obtain ⟨t,r,h⟩:=cutT_head c s q acc
 exact ⟨_,_,h⟩
theorem readE_val (l:List UInt8):∃ E,readE (readM l)=.tuple #[(valG l).v,.int .i64 E]:=by
 unfold readE valG
 split
 ·exact ⟨_,rfl⟩
 ·exact ⟨_,rfl⟩
def RetCh (c:CellT) (w:World) (e:Ending) (w':World):Prop:=∃ v1 v2,e=.returned (.agg #[v1,v2])∧CeO w.heap.size w' v1 v2 c∧Below w.heap.size w w'
theorem cutL_any (l:List UInt8) (c:UInt8) (w:World) (hc:c ≠ 39) (hl:l.length≤20000):Calls Tryz.prog 91 #[strV l,.int .u8 (c.toNat:Nat)] w (RetSp (cutT c false [] l) w) :=
 cutR_any ⟨l.toArray⟩ c w hc (by simp [ByteArray.size]; exact hl)
set_option maxHeartbeats 16000000 in
set_option maxRecDepth 100000 in
theorem cellR_any (S:ByteArray) (w:World) (hs:S.size≤20000):Calls Tryz.prog 93 #[.string S] w (RetCh (cellG S.data.toList) w):=by
 obtain ⟨j0,hj0,hy0,hy1,hy2⟩:=info_parts infoIntC
 obtain ⟨j4,hj4,hy4,hz4,ht4⟩:=info_parts infoVal
 obtain ⟨P,hP⟩:∃ P,P=cutT 58 false [] S.data.toList:=⟨_,rfl⟩
 obtain ⟨p0,pr,hpe⟩:=cutT_ne 58 S.data.toList false []
 rw [← hP] at hpe
 have hp0:p0.length≤S.size:=by
  have:=cutT_part 58 S.data.toList false [] p0 (by rw [← hP,hpe]; simp)
  rw [lenB] at this; simpa using this
 obtain ⟨A,hA⟩:∃ A,A=cutT 32 false [] p0:=⟨_,rfl⟩
 obtain ⟨V,hV⟩:∃ V,V=cutT 44 false [] (S.data.toList.drop p0.length):=⟨_,rfl⟩
 have hG:cellG S.data.toList=⟨A.map numE,V.map fun t => valG (stripG t)⟩:=by
  unfold cellG
  rw [← hP,hpe,List.headD_cons,hA,hV]
 have HGG:=Lib.hid hG
 have C1:=Lib.hid (fun w1 => cutR_any S 58 w1 (by decide) hs)
 rw [← hP] at C1
 have C2:Hid (∀ w1,Calls Tryz.prog 91 #[strV p0,.int .u8 32] w1 (RetSp A w1)):=fun w1 => by rw [hA]; exact cutL_any p0 32 w1 (by decide) (by omega)
 have C3:Hid (∀ w1,Calls Tryz.prog 91 #[.string (S.extract p0.length S.size),.int .u8 44] w1 (RetSp V w1)):=fun w1 => by
  have:=cutR_any (S.extract p0.length S.size) 44 w1 (by decide) (by rw [ByteArray.size_extract]; omega)
  rw [extract_rest] at this
  rw [hV]; exact this
 have HAL:Hid (A.length≤20001∧∀ x ∈ A,x.length≤20000):=by
  refine ⟨?_,fun x hx => ?_⟩
  ·rw [hA]; have:=cutT_count 32 p0 false []; omega
  ·rw [hA] at hx; have:=cutT_part 32 p0 false [] x hx; simp only [List.length_nil] at this; omega
 have HVL:Hid (V.length≤20001∧∀ x ∈ V,x.length≤20000):=by
  have hl:(S.data.toList.drop p0.length).length≤20000:=by rw [List.length_drop,lenB]; omega
  refine ⟨?_,fun x hx => ?_⟩
  ·rw [hV]; have:=cutT_count 44 (S.data.toList.drop p0.length) false []; omega
  ·rw [hV] at hx; have:=cutT_part 44 _ false [] x hx; simp only [List.length_nil] at this; omega
 have HPE:=Lib.hid hpe
 have b9:(p0.length:Int)≤(S.size:Int):=by omega
 obtain ⟨W0,hW0,hb0,hs0,hx0⟩:=blk_at w [.slice none 0 0,.slice none 0 0] 62
 have HB0:=Lib.hid hb0
 have HX0:=Lib.hid hx0
 have HS0:=Lib.hid hs0
 have HM1:=Lib.hid (MakC.start W0)
 obtain ⟨W1,hW1⟩:∃ W1,W1=W0.alloc (.cells #[.slice none 0 0,.slice none 0 0] 62):=⟨_,rfl⟩
 rw [← hW1] at HM1
 have HB1:Hid (Below W0.heap.size W0 W1):=by rw [hW1]; exact below_alloc _ _
 have HW1:=Lib.hid hW1
 clear hP hpe hA hV hG hb0 hx0 hs0 hp0 hs hW1
 go_enter Tryz.func93,Tryz.ntmps93
 let KF:(Ending→World→Prop)→Exit→Act→World→Prop:=bodyPost Tryz.prog Tryz.f93
 go_upto_region 1 with (fail)
 rw [← hW0]
 clear hW0
 go_upto_region 2 with (fail)
 rw [← HW1.out]
 clear HW1
 go_wp2_with fail
 refine (C1.out W1).mono ?_
 rintro e w2 ⟨v,rfl,hsv,hb⟩
 have HP2:=Lib.hid hsv
 obtain ⟨pa,pc,rfl,-⟩:=hsv.list.shape
 have HB2:=Lib.hid (below_keep HB1.out hb)
 have HM2:=Lib.hid (HM1.out.later hb)
 obtain ⟨gp,op,x0,ep,hx,hr⟩:=hsv.list.at 0 (by rw [HPE.out]; simp)
 subst ep
 have hx0:x0=p0:=by rw [HPE.out] at hx; simpa using hx.symm
 subst hx0
 unfold StrR at hr
 rw [Nat.zero_mul,Nat.add_zero] at hr
 have HRP:=Lib.hid hr
 have b8:(0:Int)<(P.length:Int):=by rw [HPE.out,List.length_cons]; omega
 clear hsv hb hx C1 HM1
 go_wp2_with fail
 refine (C2.out w2).mono ?_
 rintro e w3 ⟨v,rfl,hsv,hb⟩
 have HA3:=Lib.hid hsv
 obtain ⟨aa,ac,rfl,-⟩:=hsv.list.shape
 have HB3:=Lib.hid (below_keep HB2.out hb)
 have HM3:=Lib.hid (HM2.out.later hb)
 have HP3:=Lib.hid (HP2.out.later hb)
 have hal:=HAL.out.1
 clear hsv hb hr C2 HM2 HP2
 go_wp2
 go_loopw [6] (fun iv wr => ∃ (j:Nat) (v1:Value) (co:List Int),j≤A.length∧iv=.int .i64 (j:Nat)∧Hid (co=(A.take j).map numE)∧MakC W0.heap.size W0.heap.size wr v1 (.slice none 0 0) ⟨co,[]⟩∧Below W0.heap.size W0 wr∧StrT wr (.slice aa A.length ac) A∧StrT wr (.slice (some ⟨gp,op,none⟩) P.length pc) P) (fun iv _ => A.length - (intOf iv).toNat)
 case atStart => exact ⟨0,_,[],Nat.zero_le _,rfl,(by show _=_; rw [List.take_zero]; rfl),HM3.out,HB3.out,HA3.out,HP3.out⟩
 case round =>
  obtain ⟨j,v1,co,hj,rfl,HCO,hmk,hb,hsa,hsp⟩:=hrel
  have HMK:=Lib.hid hmk
  have HB:=Lib.hid hb
  have HSA:=Lib.hid hsa
  have HSP:=Lib.hid hsp
  by_cases hlt:j<A.length
  ·obtain ⟨gs,os,x,ea,hx,hr⟩:=hsa.list.at j hlt
   subst ea
   unfold StrR at hr
   rw [Nat.mul_one] at hr
   have CN:Hid (∀ w1,Calls Tryz.prog 92 #[strV x] w1 (RetV' (.int .i64 (numE x)) w1)):=fun w1 =>
    (numberR_any ⟨x.toArray⟩ w1 (by have:=HAL.out.2 x (List.mem_of_getElem? hx); simp [ByteArray.size]; exact this)).mono fun e w' h => ⟨h.1,by rw [h.2]; exact Below.refl _ _⟩
   obtain ⟨N,hN⟩:∃ N,N=numE x:=⟨_,rfl⟩
   rw [← hN] at CN
   have HCN:Hid (co ++ [N]=(A.take (j+1)).map numE):=by
    show _=_
    rw [take_snoc' hx,List.map_append,← HCO.out,hN]; rfl
   have hcl:co.length=j:=by rw [HCO.out,List.length_map,List.length_take]; omega
   have HCL:=Lib.hid hcl
   obtain ⟨va,vc,hva⟩:∃ va vc,v1=.slice va j vc:=by
    obtain ⟨va,vc,e,-⟩:=(hmk.co.list cellw_Int).shape
    exact ⟨va,vc,by rw [e,hcl]⟩
   subst hva
   have HI:Hid (j+1≤A.length∧A.length - (j+1)<A.length - j):=by show _∧_; omega
   have b0:(0:Int)≤(j:Int):=by omega
   have b1:(j:Int)<(A.length:Int):=by omega
   have hju:j≤30000:=by omega
   have c0:=hmk.c0
   have hw0:W0.heap.size≤wr.heap.size:=hb.size
   clear hj hx hN hmk hb hsa hsp hlt HCO hcl
   go_wp2_with fail
   go_region_law ((first
    | (refine step_append_lies _ (by rfl) _ _ 36 (by rfl) W0.heap.size 3 j0 (.int .i64 0) 1 8 Tryz.underlying36 hj0 hy0 hy1 hy2 rfl (by decide) _ j (co.flatMap cellsInt) (by rfl) (hrow.alloc _) ⟨wq.heap.size,0,none⟩ 1 1 [.int .i64 N] (by rfl) (by rfl) (lit_at wq [.int .i64 N] 3) (by simp [Value.oneCell']) (by omega) (by unfold maxLen; omega) (by omega) (by simp; omega) (wq.heap.size+1) (by simp) ?_; intro g7 cp7 w7 hown hgrow hat hlt6; have hba:=below_alloc wq (.cells #[.int .i64 N] 3); have hco:OwI W0.heap.size w7 (.slice (some ⟨g7,0,none⟩) (j+1) cp7) (co ++ [N]):=OwR.snoc (by rw [HCL.out]; exact hown); have HMD:=Lib.hid ((HMQ.out.later hba).setI hgrow hco); have HB8:Hid (∀ u,Below W0.heap.size W0 (w7.setCell ⟨W0.heap.size,0,none⟩ u)):=fun u => ((below_keep (below_keep HB.out HBQ.out) hba).grown hgrow (by simp; omega) (fun k e => (hrow.lt k e).1)).setCell (p:=⟨W0.heap.size,0,none⟩) (Nat.le_refl _) u; have HS8:Hid (∀ u,StrT (w7.setCell ⟨W0.heap.size,0,none⟩ u) (.slice (some ⟨gs,os,none⟩) A.length ac) A∧StrT (w7.setCell ⟨W0.heap.size,0,none⟩ u) (.slice (some ⟨gp,op,none⟩) P.length pc) P):=fun u => ⟨(((HSA.out.later (below_keep HBQ.out hba)).kept hgrow (fun r e => (HMQ.out.later hba).co.tag r e) (by decide)).set HMD.out.tg (by decide) _ _),(((HSP.out.later (below_keep HBQ.out hba)).kept hgrow (fun r e => (HMQ.out.later hba).co.tag r e) (by decide)).set HMD.out.tg (by decide) _ _)⟩; have d0:=HMD.out.c0; have e0:=HMD.out.f0; clear hown hgrow hat hlt6 hba hco)
    | (refine step_wp rfl ?_; unfold Oper.wp; go_simp; go_at_call 92; refine (CN.out _).mono ?_; rintro e wq ⟨rfl,hb5⟩; have HBQ:Hid (Below wr.heap.size wr wq):=below_keep (Below.refl _ _).drew hb5; have HMQ:=Lib.hid (HMK.out.later HBQ.out); have hrow:=HMQ.out.co.row; simp only at hrow; rw [HCL.out] at hrow; have q0:=HMQ.out.c0; have ql:W0.heap.size<wq.heap.size:=HMQ.out.tag.lt; have qn:W0.heap.size ≠ wq.heap.size:=Nat.ne_of_lt ql; have hwq:W0.heap.size≤wq.heap.size:=Nat.le_trans hw0 HBQ.out.size; clear hb5)))
   all_goals
    clear hrow q0 ql qn hr c0
    go_wp2
    exact ⟨⟨j+1,_,_,HI.out.1,by go_num,HCN.out,HMD.out.out,HB8.out _,(HS8.out _).1,(HS8.out _).2⟩,HI.out.2⟩
  ·obtain rfl:j=A.length:=by omega
   have hco:=HCO.out
   rw [List.take_length] at hco
   have HCA:=Lib.hid hco
   obtain ⟨gq,oq,x1,ep,hx,hr⟩:=hsp.list.at 0 (by rw [HPE.out]; simp)
   injection ep with ep
   injection ep with ep1 ep2
   subst ep1 ep2
   have hx1:x1=x0:=by rw [HPE.out] at hx; simpa using hx.symm
   subst hx1
   unfold StrR at hr
   rw [Nat.zero_mul,Nat.add_zero] at hr
   have b1:¬ (A.length:Int)<(A.length:Int):=by omega
   obtain ⟨va,vc,hva,-⟩:=(hmk.co.list cellw_Int).shape
   subst hva
   clear hj hmk hb hsa hsp hlt HCO hco hx
   go_wp2_with fail
   refine (C3.out wr).mono ?_
   rintro e w4 ⟨v,rfl,hsv,hb⟩
   have HV4:=Lib.hid hsv
   obtain ⟨ba,bc,rfl,-⟩:=hsv.list.shape
   have HB4:=Lib.hid (below_keep HB.out hb)
   have HM4:=Lib.hid (HMK.out.later hb)
   have hvl:=HVL.out.1
   clear hsv hb hr C3 HMK HSA HSP HB b1
   go_wp2
   go_loopw [8] (fun iv wy => ∃ (k:Nat) (v2:Value) (vs:List Va),k≤V.length∧iv=.int .i64 (k:Nat)∧Hid (vs=(V.take k).map fun t => valG (stripG t))∧MakC W0.heap.size W0.heap.size wy (.slice va co.length vc) v2 ⟨co,vs⟩∧Below W0.heap.size W0 wy∧StrT wy (.slice ba V.length bc) V) (fun iv _ => V.length - (intOf iv).toNat)
   case atStart => exact ⟨0,_,[],Nat.zero_le _,rfl,(by show _=_; rw [List.take_zero]; rfl),HM4.out,HB4.out,HV4.out⟩
   case round =>
    clear HM4 HB4 HV4
    obtain ⟨k,v2,vs,hk,rfl,HVS,hmk,hb,hsa⟩:=hrel
    have HMK:=Lib.hid hmk
    have HB:=Lib.hid hb
    have HSA:=Lib.hid hsa
    obtain ⟨wo,hwo⟩:∃ wo,wo=wr:=⟨_,rfl⟩
    by_cases hlt:k<V.length
    ·obtain ⟨gs,os,x,ea,hx,hr⟩:=hsa.list.at k hlt
     subst ea
     unfold StrR at hr
     rw [Nat.mul_one] at hr
     have HXL:Hid (x.length≤20000):=HVL.out.2 x (List.mem_of_getElem? hx)
     obtain ⟨Z,hZ⟩:∃ Z,Z=stripG x:=⟨_,rfl⟩
     have HZ:=Lib.hid hZ
     have HVN:Hid (vs ++ [valG Z]=(V.take (k+1)).map fun t => valG (stripG t)):=by
      show _=_
      rw [take_snoc' hx,List.map_append,← HVS.out,hZ]; rfl
     have hcl:vs.length=k:=by rw [HVS.out,List.length_map,List.length_take]; omega
     have HCL:=Lib.hid hcl
     have HI:Hid (k+1≤V.length∧V.length - (k+1)<V.length - k):=by show _∧_; omega
     have b0:(0:Int)≤(k:Int):=by omega
     have b1:(k:Int)<(V.length:Int):=by omega
     have hju:k≤30000:=by omega
     clear hk hx hZ hmk hb hsa hlt HVS hcl
     go_wp2
     clear hr b0 b1
     rw [← hwo] at HMK HB HSA ⊢
     clear hwo
     go_loopw [9] (fun tv wz => ∃ T:ByteArray,tv=.string T∧Hid (stripG T.data.toList=Z)∧T.size≤20000∧wz=wo) (fun tv _ => slen tv)
     case atStart => exact ⟨⟨x.toArray⟩,rfl,HZ.out.symm,by have:=HXL.out; simpa [ByteArray.size] using this,rfl⟩
     case round =>
      obtain ⟨T,rfl,HT,hTs,rfl⟩:=hrel
      have hcase:(∃ h:0<T.size,T[0]=58 ∨ T[0]=32) ∨ (stripG T.data.toList=T.data.toList∧(T.size=0 ∨ ∃ h:0<T.size,T[0] ≠ 58∧T[0] ≠ 32)):=by
       rcases Nat.eq_zero_or_pos T.size with h | h
       ·refine .inr ⟨?_,.inl h⟩
        have:T.data.toList=[]:=List.length_eq_zero_iff.1 (by rw [lenB]; exact h)
        rw [this,stripG]
       ·by_cases hc:T[0]=58 ∨ T[0]=32
        ·exact .inl ⟨h,hc⟩
        ·refine .inr ⟨?_,.inr ⟨h,fun e => hc (.inl e),fun e => hc (.inr e)⟩⟩
         have:=bytes_drop T h
         rw [List.drop_zero] at this
         rw [this,stripG,if_neg hc]
      rcases hcase with ⟨h0,hc⟩ | ⟨hst,hend⟩
      ·have hbd:=bytes_drop T h0
       rw [List.drop_zero] at hbd
       have HN:Hid (stripG (T.extract 1 T.size).data.toList=Z):=by
        show _=_
        rw [extract_rest,← HT.out]
        conv => rhs; rw [hbd,stripG,if_pos hc]
       have HTS:Hid ((T.extract 1 T.size).size≤20000∧(T.extract 1 T.size).size<T.size):=by
        show _∧_
        rw [ByteArray.size_extract]; omega
       have t0:(0:Int)<(T.size:Int):=by omega
       have t1:(1:Int)≤(T.size:Int):=by omega
       have hc2:((T[0].toNat:Int) == 58)=true ∨ (((T[0].toNat:Int) == 58)=false∧((T[0].toNat:Int) == 32)=true):=by
        rw [show (58:Int)=((58:UInt8).toNat:Int) from rfl,show (32:Int)=((32:UInt8).toNat:Int) from rfl,u8_eq,u8_eq]
        rcases hc with h | h
        ·exact .inl (decide_eq_true h)
        ·exact .inr ⟨by rw [h]; decide,decide_eq_true h⟩
       clear hbd hc HT hTs
       rcases hc2 with e58 | ⟨e58,e32⟩
       all_goals
        go_wp2
        exact ⟨⟨T.extract 1 T.size,rfl,HN.out,HTS.out.1,trivial⟩,HTS.out.2⟩
      ·have hZT:Z=T.data.toList:=by rw [← HT.out,hst]
       obtain ⟨E,hE⟩:=readE_val T.data.toList
       have CR:=Lib.hid (rread_any T wr hTs)
       rw [hE,← hZT] at CR
       obtain ⟨X,hX⟩:∃ X,X=valG Z:=⟨_,rfl⟩
       rw [← hX] at CR
       have hvn:=HVN.out
       rw [← hX] at hvn
       have HVM:=Lib.hid hvn
       obtain ⟨kd,nu,de,st⟩:=X
       have hend2:¬ (0:Int)<(T.size:Int) ∨ ((0:Int)<(T.size:Int)∧∃ h:0<T.size,((T[0].toNat:Int) == 58)=false∧((T[0].toNat:Int) == 32)=false):=by
        rcases hend with h | ⟨h,h1,h2⟩
        ·exact .inl (by omega)
        ·refine .inr ⟨by omega,h,?_,?_⟩
         ·rw [show (58:Int)=((58:UInt8).toNat:Int) from rfl,u8_eq]; exact decide_eq_false h1
         ·rw [show (32:Int)=((32:UInt8).toNat:Int) from rfl,u8_eq]; exact decide_eq_false h2
       have hb:=HB.out
       have hcl:=HCL.out
       clear hst hend hZT hE hX hvn HT HVN HZ HXL
       rcases hend2 with t0 | ⟨t0,h0,e58,e32⟩
       all_goals
        go_wp2_with fail
        refine CR.out.mono ?_
        rintro e w5 ⟨rfl,hb5⟩
        have HM5:=Lib.hid (HMK.out.later hb5)
        have HS5:=Lib.hid (HSA.out.later hb5)
        have HB5:=Lib.hid (below_keep hb hb5)
        obtain ⟨v2a,v2c,hv2⟩:∃ a c,v2=.slice a k c:=by
         obtain ⟨a,c,e,-⟩:=(HM5.out.va.list cellw_val).shape
         exact ⟨a,c,by rw [e,hcl]⟩
        subst hv2
        have hrow:=HM5.out.va.row
        simp only at hrow
        rw [hcl] at hrow
        have q1:=HM5.out.c1
        have ql:W0.heap.size<w5.heap.size:=HM5.out.tag.lt
        have qn:W0.heap.size ≠ w5.heap.size:=Nat.ne_of_lt ql
        have qm:W0.heap.size ≠ w5.heap.size+1:=by omega
        have qk:W0.heap.size<w5.heap.size+1:=by omega
        have hw0:W0.heap.size≤w5.heap.size:=HB5.out.size
        clear hb5 CR
        go_wp2_with (at_builtin; refine wpList_append_lies _ (by rfl) _ _ 60 (by rfl) W0.heap.size 59 j4 (.agg #[.int .i64 0,.int .i64 0,.int .i64 0,.string ⟨#[]⟩]) 4 40 Tryz.underlying60 hj4 hy4 hz4 ht4 rfl (by decide) _ k (vs.flatMap vcells) (by rfl) ((hrow.alloc _).alloc _) ⟨w5.heap.size+1,0,none⟩ 1 1 [.int .i64 kd,.int .i64 nu,.int .i64 de,.string ⟨st.toArray⟩] (by rfl) (by rfl) (by have:=lit_at (w5.alloc (.cells #[.int .i64 kd,.int .i64 nu,.int .i64 de,.string ⟨st.toArray⟩] 59)) [.int .i64 kd,.int .i64 nu,.int .i64 de,.string ⟨st.toArray⟩] 59; rwa [World.size_alloc] at this) (by simp [Value.oneCell']) (by omega) (by unfold maxLen; omega) (by omega) (by simp; omega) (w5.heap.size+2) (by simp) ?_)
        intro g7 cp7 w7 hown hgrow hat hlt6
        have hba:=below_keep (below_alloc w5 (.cells #[.int .i64 kd,.int .i64 nu,.int .i64 de,.string ⟨st.toArray⟩] 59)) (below_alloc _ (.cells #[.int .i64 kd,.int .i64 nu,.int .i64 de,.string ⟨st.toArray⟩] 59))
        have hco:OwV W0.heap.size w7 (.slice (some ⟨g7,0,none⟩) (k+1) cp7) (vs ++ [⟨kd,nu,de,st⟩]):=OwR.snoc (by rw [hcl]; exact hown)
        have HMD:=Lib.hid ((HM5.out.later hba).setV hgrow (fun r e => (HM5.out.later hba).va.tag r e) hco)
        have HB8:Hid (∀ u,Below W0.heap.size W0 (w7.setCell ⟨W0.heap.size,1,none⟩ u)):=fun u => ((below_keep HB5.out hba).grown hgrow (by simp; omega) (fun k e => (hrow.lt k e).1)).setCell (p:=⟨W0.heap.size,1,none⟩) (Nat.le_refl _) u
        have HS8:Hid (∀ u,StrT (w7.setCell ⟨W0.heap.size,1,none⟩ u) (.slice (some ⟨gs,os,none⟩) V.length bc) V):=fun u => (((HS5.out.later hba).kept hgrow (fun r e => (HM5.out.later hba).va.tag r e) (by decide)).set HMD.out.tg (by decide) _ _)
        have d0:=HMD.out.c1
        have e0:=HMD.out.f1
        clear hown hgrow hat hlt6 hba hco hrow q1 ql qn qm qk hw0
        go_wp2
        exact ⟨⟨k+1,_,_,HI.out.1,by go_num,HVM.out,HMD.out.out,HB8.out _,HS8.out _⟩,HI.out.2⟩
    ·obtain rfl:k=V.length:=by omega
     have hvs:=HVS.out
     rw [List.take_length] at hvs
     have HRES:Hid (cellG S.data.toList=⟨co,vs⟩):=by show _=_; rw [HGG.out,← HCA.out,← hvs]
     obtain ⟨y,yf,yt⟩:=HX0.out wr hb
     have r0:=y 0 _ rfl
     have r1:=y 1 _ rfl
     have f0:=yf 0
     have f1:=yf 1
     have HYT:=Lib.hid yt
     have c0:=hmk.c0
     have c1:=hmk.c1
     obtain ⟨vb,vbc,hvb,-⟩:=(hmk.va.list cellw_val).shape
     subst hvb
     have b1:¬ (V.length:Int)<(V.length:Int):=by omega
     have HFIN:Hid (∀ a b,CeO w.heap.size ((wr.setCell ⟨w.heap.size,0,none⟩ a).setCell ⟨w.heap.size,1,none⟩ b) (.slice va co.length vc) (.slice vb vs.length vbc) ⟨co,vs⟩∧Below w.heap.size w ((wr.setCell ⟨w.heap.size,0,none⟩ a).setCell ⟨w.heap.size,1,none⟩ b)):=fun a b =>
      ⟨(HMK.out.done HYT.out).base (Nat.le_of_lt HS0.out),((below_keep HB0.out HB.out).setCell (p:=⟨w.heap.size,0,none⟩) (Nat.le_refl _) _).setCell (p:=⟨w.heap.size,1,none⟩) (Nat.le_refl _) _⟩
     clear hvs hmk hb hsa hlt hk HVS HCA HGG y yf yt HX0 hwo
     go_wp2
     refine bodyPost_ret (by simp [results,Tryz.results93,go_sem,r0,r1]; try rfl) rfl ?_
     rw [HRES.out]
     exact ⟨_,_,rfl,(HFIN.out _ _).1,(HFIN.out _ _).2⟩
theorem ratS_int (n:Int):ratS (n:Rat)=itS n:=by
 unfold ratS itS qneg qnum
 rw [Rat.num_intCast,Rat.den_intCast,if_pos rfl]
 by_cases h:n<0
 ·rw [if_pos h,decide_eq_true h]; simp
 ·rw [if_neg h,decide_eq_false h]; simp
set_option maxHeartbeats 1600000 in
set_option maxRecDepth 100000 in
theorem intR_any (n:Int) (w:World) (h1 : -9223372036854775808≤n) (h2:n≤9223372036854775807):Calls Tryz.prog 83 #[.int .i64 n] w (RetQ9 (n:Rat) w):=by
 have S1:=Lib.hid (fun w => size9_any n w h1 h2)
 have S2:=Lib.hid (fun w => one9_any w)
 have HR:=Lib.hid (Res9.made w 136)
 have HB0:=Lib.hid (below_alloc w (.cells #[.bool false,.slice none 0 0,.slice none 0 0] 136))
 obtain ⟨b,hb⟩:∃ b,b=qneg (n:Rat):=⟨_,rfl⟩
 have hbn:decide (n<0)=b:=by rw [hb]; unfold qneg; rw [Rat.num_intCast]
 have HBQ:=Lib.hid hb
 have HQN:Hid (qnum (n:Rat)=n.natAbs∧(n:Rat).den=1):=by
  refine ⟨?_,Rat.den_intCast n⟩
  unfold qnum; rw [Rat.num_intCast]
 clear h1 h2 hb
 go_enter Tryz.func83,Tryz.ntmps83
 go_wp2_with fail
 refine (S1.out _).mono ?_
 rintro e w1 ⟨v1,rfl,hv1,hb1⟩
 have V1:=Lib.hid hv1
 have HB1:=Lib.hid (below_keep HB0.out hb1)
 have HR1:=Lib.hid (HR.out.later hb1 (by simp))
 clear hv1 hb1 HR
 go_wp2_with fail
 refine (S2.out _).mono ?_
 rintro e w2 ⟨v2,rfl,hv2,hb2⟩
 have V2:=Lib.hid hv2
 have V1':=Lib.hid (V1.out.later hb2)
 have HB2:=Lib.hid (below_keep HB1.out hb2)
 have HR2:=Lib.hid (HR1.out.later hb2 (World.block_lt_of_cell? _ _ HR1.out.c0))
 clear hv2 hb2 HR1
 obtain ⟨a,n1,cap,rfl,-⟩:=V1'.out.shape (by decide)
 obtain ⟨a',n',cap',rfl,-⟩:=V2.out.shape (by decide)
 obtain ⟨r0,r1,r2,f0,f1,f2⟩:=HR2.out
 go_wp2
 refine bodyPost_ret (by simp [results,Tryz.results83,go_sem,r0,r1,r2]; try rfl) rfl ?_
 refine ⟨_,rfl,⟨_,_,by rw [← HBQ.out],?_,?_⟩,below_set3 HB2.out⟩
 ·rw [HQN.out.1]; exact HR2.out.set3 V1'.out _ _ _
 ·rw [HQN.out.2]; exact HR2.out.set3 V2.out _ _ _
set_option maxHeartbeats 1600000 in
set_option maxRecDepth 100000 in
theorem digitsR_any (n:Int) (w:World) (h1 : -9223372036854775808≤n) (h2:n≤9223372036854775807):Calls Tryz.prog 37 #[.int .i64 n] w (RetV' (strV (itS n)) w):=by
 have C1:=Lib.hid (fun w1 => intR_any n w1 h1 h2)
 have C2:Hid (∀ v w1,Q9 w1 v (n:Rat)→Calls Tryz.prog 82 #[v] w1 (RetV (str (itS n)) w1)):=fun v w1 h => by
  have hb:Bd 64 (n:Rat):=⟨by unfold qnum; rw [Rat.num_intCast]; omega,by rw [Rat.den_intCast]; decide⟩
  have:=text9_any h hb (by decide)
  rwa [ratS_int] at this
 clear h1 h2
 go_enter Tryz.func37,Tryz.ntmps37
 go_wp2_with fail
 refine (C1.out w).mono ?_
 rintro e w1 ⟨v,rfl,hq,hb⟩
 have CT:=Lib.hid (C2.out v w1 hq)
 have HB:=Lib.hid hb
 obtain ⟨vn,vd,rfl,-,-⟩:=hq
 clear hb C1 C2
 go_wp2_with fail
 refine CT.out.mono ?_
 rintro e w2 ⟨rfl,hb⟩
 have HB2:=Lib.hid (below_keep HB.out hb)
 clear hb CT
 go_wp2
 go_ret
 exact ⟨rfl,HB2.out⟩
abbrev wordsR:Array Value:=#[.string ⟨#[]⟩,.string ⟨#[98,111,111,108]⟩,.string ⟨#[105,110,116]⟩,.string ⟨#[114,97,116]⟩,.string ⟨#[116,101,120,116]⟩]
set_option maxHeartbeats 1600000 in
set_option maxRecDepth 100000 in
theorem wordR_any (k:Int) (w:World) (h1:0≤k) (h2:k≤4):Calls Tryz.prog 38 #[.int .i64 k] w (RetV' (strV (wordT k)) w):=by
 have HB:=Lib.hid (below_alloc w (.cells wordsR 9))
 have hc:∀ j u,wordsR[j]? = some u→(w.alloc (.cells wordsR 9)).cell? ⟨w.heap.size,j,none⟩=some u:=fun j u hj => by
  rw [World.cell?_alloc_at _ _ _ _ rfl]; exact hj
 have c0:=hc 0 _ rfl
 have c1:=hc 1 _ rfl
 have c2:=hc 2 _ rfl
 have c3:=hc 3 _ rfl
 have c4:=hc 4 _ rfl
 clear hc
 obtain h | h | h | h | h:k=0 ∨ k=1 ∨ k=2 ∨ k=3 ∨ k=4:=by omega
 all_goals
  subst h
  clear h1 h2
  go_enter Tryz.func38,Tryz.ntmps38
  go_wp2
  go_ret
  exact ⟨rfl,HB.out⟩
end Go.Proofs.YtdbnebhehiiakaaGreatDoor
