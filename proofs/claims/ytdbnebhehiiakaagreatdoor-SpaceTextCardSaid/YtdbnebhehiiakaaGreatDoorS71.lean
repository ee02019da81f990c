/- Lemmas and contracts, each under its own condition: Plain: the value that a string may denote, as the document's guess has it. No program in sight. The reference's natural numbers, contract: number (the number of a string of digits). The reference's rational numbers, contract: Parse. The reference's values, contract: Print. The reference's values, contracts: guess, Read. -/
import Derived.Deep.QuietTactic
import Derived.Test.YtdbnebhehiiakaaGreatDoorE1
import Derived.Test.YtdbnebhehiiakaaGreatDoorG1
import Derived.Test.YtdbnebhehiiakaaGreatDoorS50
import Derived.Test.YtdbnebhehiiakaaGreatDoorT0
import Derived.Test.YtdbnebhehiiakaaGreatDoorT1
namespace Go.Proofs.YtdbnebhehiiakaaGreatDoor
open Go.RowKit
def gq (l:List UInt8):Nat→Nat→List UInt8→List UInt8
 | 0,_,t => t
 | f+1,i,t => if i<l.length - 1∧i<40 then gq l f (if l.getD i 0=39 then i+2 else i+1) (t ++ [l.getD i 0]) else t
theorem gq_end {l:List UInt8} {i:Nat} (f:Nat) (t:List UInt8) (h:¬ (i<l.length - 1∧i<40)):gq l f i t=t:=by
 cases f with
 | zero => rfl
 | succ f => rw [gq,if_neg h]
theorem gq_step {l:List UInt8} {i:Nat} (f:Nat) (t:List UInt8) (h:i<l.length - 1∧i<40):gq l (f+1) i t=gq l f (if l.getD i 0=39 then i+2 else i+1) (t ++ [l.getD i 0]):=by rw [gq,if_pos h]
theorem gq_dbl (s:List UInt8):∀ (pre:List UInt8) (f:Nat) (t:List UInt8),pre.length+(dbl s).length≤40→(dbl s).length≤f→gq (pre ++ (dbl s ++ [39])) f pre.length t=t ++ s:=by
 induction s with
 | nil =>
  intro pre f t _ _
  rw [gq_end _ _ (by simp [dbl]),List.append_nil]
 | cons c s ih =>
  intro pre f t h1 h2
  by_cases hc:c=39
  ·subst hc
   rw [show dbl (39 :: s)=39 :: 39 :: dbl s from by rw [dbl,if_pos rfl]] at h1 h2 ⊢
   simp only [List.length_cons] at h1 h2
   obtain ⟨f,rfl⟩:∃ g,f=g+1:=⟨f - 1,by omega⟩
   have hg:(pre ++ (39 :: 39 :: dbl s ++ [39])).getD pre.length 0=39:=by simp [List.getD_eq_getElem?_getD]
   rw [gq_step _ _ ⟨by simp,by omega⟩,hg,if_pos rfl]
   have:=ih (pre ++ [39,39]) f (t ++ [39]) (by simp; omega) (by omega)
   simpa using this
  ·rw [show dbl (c :: s)=c :: dbl s from by rw [dbl,if_neg hc]] at h1 h2 ⊢
   simp only [List.length_cons] at h1 h2
   obtain ⟨f,rfl⟩:∃ g,f=g+1:=⟨f - 1,by omega⟩
   have hg:(pre ++ (c :: dbl s ++ [39])).getD pre.length 0=c:=by simp [List.getD_eq_getElem?_getD]
   rw [gq_step _ _ ⟨by simp,by omega⟩,hg,if_neg hc]
   have:=ih (pre ++ [c]) f (t ++ [c]) (by simp; omega) (by omega)
   simpa using this
def guessV (l:List UInt8):Va :=
 if l=sTrue ∨ l=sFalse then truthV (decide (l=sTrue))
 else if 1<l.length∧l.length<5∧l.head? = some 63 then (match parseD (l.drop 1) with | some n => missV n | none => zeroV)
 else if 1<l.length∧l.head? = some 39 then textV (gq l 40 1 [])
 else if l.length<30 then (match parseQ l with | some q => valQ q | none => zeroV)
 else zeroV
theorem ratS_len30 {q:Rat} (h:FitQ q):(ratS q).length<30:=by
 have h1:=dec_len_le (qnum q) 13 (by decide) (Nat.lt_of_le_of_lt h.num (by decide))
 have h2:=dec_len_le q.den 13 (by decide) (Nat.lt_of_le_of_lt h.den (by decide))
 unfold ratS
 simp only [List.length_append]
 split <;> split <;> simp <;> omega
theorem dec_pos (n:Nat):0<(dec n).length:=by
 have h:=(dec_parts n).1
 exact List.length_pos_iff.2 h
theorem guess_right {x:Va} (hx:rightV x=true):guessV (printV x)=x:=by
 rcases right_cases hx with ⟨r,h1,h2,rfl⟩ | ⟨b,rfl⟩ | ⟨q,hq,rfl⟩ | ⟨s,h1,h2,rfl⟩
 ·rw [print_miss]
  unfold guessV
  have h3:=dec3 (n:=r.natAbs) (by omega)
  have h4:=dec_pos r.natAbs
  rw [if_neg (by simp),if_pos ⟨by simp only [List.length_cons]; omega,by simp only [List.length_cons]; omega,rfl⟩,List.drop_one,List.tail_cons,parseD_dec]
  show missV ((r.natAbs:Nat):Int)=_
  rw [show ((r.natAbs:Nat):Int)=r from by omega]
 ·cases b
  ·rfl
  ·rfl
 ·rw [print_rat]
  unfold guessV
  have hh:∀ c:UInt8,headK [c] ≠ 2→(ratS q).head? ≠ some c:=by
   intro c hc e
   have h:=head_rat q
   cases hl:ratS q with
   | nil => rw [hl] at e; simp at e
   | cons a t =>
    rw [hl] at e h
    simp only [List.head?_cons,Option.some.injEq] at e
    subst e
    exact hc h
  rw [if_neg (by rintro (h | h); exact ratS_ne (by decide) h; exact ratS_ne (by decide) h),if_neg (fun h => hh 63 (by decide) h.2.2),if_neg (fun h => hh 39 (by decide) h.2),if_pos (ratS_len30 hq),parseQ_ratS]
  show valQ q=_
  unfold valQ
  rw [if_pos ⟨hq.num,hq.den⟩]
 ·rw [print_text]
  unfold guessV
  have hl:=dbl_len s
  rw [if_neg (by simp),if_neg (by simp),if_pos ⟨by simp,by simp⟩]
  have:=gq_dbl s [39] 40 [] (by simp only [List.length_cons,List.length_nil]; omega) (by omega)
  rw [List.nil_append] at this
  rw [show (39 :: dbl s ++ [39]:List UInt8)=[39] ++ (dbl s ++ [39]) from rfl]
  exact congrArg textV this
theorem guess_eq {l:List UInt8} (h:rightV (readM l)=true):guessV l=readM l:=by
 have:=guess_right h
 rwa [readM_print h] at this
theorem guess_iff (l:List UInt8):(rightV (guessV l)=true∧printV (guessV l)=l) ↔ rightV (readM l)=true:=by
 constructor
 ·rintro ⟨h1,h2⟩
  have:=readM_right h1
  rw [h2] at this
  rw [this]; exact h1
 ·intro h
  rw [guess_eq h]
  exact ⟨h,readM_print h⟩
def RetNum9 (o:Option Nat) (w:World) (e:Ending) (w':World):Prop :=
 match o with
 | some n => ∃ v,e=.returned (.tuple #[v,.bool true])∧IsN B9 w' v n∧Below w.heap.size w w'
 | none => e=.returned (.tuple #[.slice none 0 0,.bool false])∧Below w.heap.size w w'
theorem number_empty (w:World) (s:ByteArray) (h:s.data.toList=[]) :
  Calls Tryz.prog 203 #[.string s] w fun e w' => e=.returned (.tuple #[.slice none 0 0,.bool false])∧w=w':=by
 have h1:s.toList=[]:=by rw [ByteArray.toList_eq]; exact h
 have h2:s.toList.isEmpty=true:=by rw [h1]; rfl
 have H:=Lib.hid h1
 clear h1 h
 go_enter Tryz.func203,Tryz.ntmps203
 go_wp2
 all_goals first
  | (go_ret2; exact ⟨rfl,rfl⟩)
  | (exfalso; rename_i h3 _; exact h3 H.out)
theorem number_zero (w:World) (s:ByteArray) (hp:0<s.size) (h:s[0]=48) (hl:s.data.toList ≠ [48]) :
  Calls Tryz.prog 203 #[.string s] w fun e w' => e=.returned (.tuple #[.slice none 0 0,.bool false])∧w=w':=by
 have h1:(s.toList == [48])=false:=by rw [ByteArray.toList_eq]; simpa using hl
 have h2:s.toList.isEmpty=false:=by
  rw [ByteArray.toList_eq,List.isEmpty_eq_false_iff]
  intro e; have:=lenB s; rw [e] at this; simp only [List.length_nil] at this; omega
 have h3:((s[0].toNat:Int) == 48)=true:=by rw [h]; rfl
 clear h hl
 go_enter Tryz.func203,Tryz.ntmps203
 go_wp2
 go_ret2
 exact ⟨rfl,rfl⟩
theorem dval_append (a b:List UInt8):dval (a ++ b)=dval a * 10 ^ b.length+dval b:=by
 generalize hn:b.length=n
 induction n generalizing b with
 | zero => rw [List.length_eq_zero_iff.1 hn,List.append_nil]; simp [dval_nil]
 | succ n ih =>
  rcases snoc_cases b with rfl | ⟨xs,c,rfl⟩
  ·simp at hn
  ·have hx:xs.length=n:=by simpa using hn
   rw [← List.append_assoc,dval_snoc,ih xs hx,dval_snoc,Nat.pow_succ]
   rw [Nat.mul_add,← Nat.mul_assoc,Nat.mul_comm 10 (dval a),Nat.mul_assoc,Nat.mul_comm 10 (10 ^ n)]
   omega
theorem dval_drop {l:List UInt8} {f:Nat}:dval l=dval (l.take f) * 10 ^ (l.length - f)+dval (l.drop f):=by
 conv => lhs; rw [← List.take_append_drop f l]
 rw [dval_append,List.length_drop]
structure Num9 (w:World) (l:List UInt8) (m k:Nat) (O:Nat→Nat) (ov:Value) (wr:World):Prop where
 own:wr.ownsRow w.heap.size 169 1 ov k (rowD O k)
 below:Below w.heap.size w wr
 dig:∀ i,i<k→O i<B9
 le:m≤l.length
 len:m=0 ∨ l.length=m+9 * k
 cnt:9 * k≤l.length+9
 eq:dval l=dval (l.take m) * B9 ^ k+fval B9 O k
theorem Num9.step {w wr w':World} {l:List UInt8} {m k d:Nat} {O:Nat→Nat} {ov ov':Value} (h:Num9 w l m k O ov wr) (hm:0<m) (hall:l.all isD=true) (hd:d=dval ((l.take m).drop (m - 9)))
  (hown:w'.ownsRow w.heap.size 169 1 ov' (k+1) (rowD (putD O k d) (k+1))) (hb:Below w.heap.size w w'):Num9 w l (m - 9) (k+1) (putD O k d) ov' w':=by
 have hle:=h.le
 have hlen:=h.len
 have htl:(l.take m).length=m:=by rw [List.length_take]; omega
 have hda:((l.take m).drop (m - 9)).all isD=true:=by
  rw [List.all_eq_true] at hall ⊢
  exact fun x hx => hall x (List.mem_of_mem_take (List.mem_of_mem_drop hx))
 have hd9:d<1000000000:=by
  have h1:=dval_lt _ hda
  rw [List.length_drop,htl,← hd] at h1
  exact Nat.lt_of_lt_of_le h1 (Nat.le_trans (Nat.pow_le_pow_right (by decide) (show m - (m - 9)≤9 by omega)) (by decide))
 refine ⟨hown,hb,fun i hi => ?_,by omega,by omega,by omega,?_⟩
 ·by_cases e:i=k
  ·subst e; rw [putD_same]; exact hd9
  ·rw [putD_other _ _ _ _ e]; exact h.dig i (by omega)
 ·rw [fval_succ,putD_same,fval_congr (E:=O) k (fun i hi => putD_other _ _ _ _ (by omega)),h.eq,dval_drop (l:=l.take m) (f:=m - 9),htl,← hd,List.take_take,
   show min (m - 9) m=m - 9 from by omega]
  by_cases h9:9≤m
  ·rw [show m - (m - 9)=9 from by omega,show (10:Nat) ^ 9=B9 from rfl,Nat.add_mul,Nat.pow_succ,Nat.mul_assoc,Nat.mul_comm B9 (B9 ^ k),Nat.mul_comm d]
   omega
  ·rw [show m - 9=0 from by omega,List.take_zero,dval_nil,Nat.zero_mul,Nat.zero_mul,Nat.zero_add,Nat.zero_add,Nat.mul_comm d]
   omega
structure Pc9 (l:List UInt8) (f i D:Nat):Prop where
 val:D=dval ((l.take i).drop f)
 le:f≤i
 lt:D<10 ^ (i - f)
theorem Pc9.step {s:ByteArray} {f i D:Nat} (h:Pc9 s.data.toList f i D) (hi:i<s.size) (hd:isD s[i]=true):Pc9 s.data.toList f (i+1) (10 * D+(s[i].toNat - 48)):=by
 have hle:=h.le
 have h9:=(isD_iff _).1 hd
 refine ⟨?_,by omega,?_⟩
 ·rw [take_snocB s i hi,List.drop_append_of_le_length (by rw [List.length_take,lenB]; omega),dval_snoc,← h.val]
 ·rw [show i+1 - f=(i - f)+1 from by omega,Nat.pow_succ]
  have:=h.lt; omega
theorem extract_pre (s:ByteArray) (n:Nat):(s.extract 0 n).data.toList=s.data.toList.take n:=by
 rw [ByteArray.data_extract,Array.toList_extract]
 simp [List.extract]
set_option maxHeartbeats 3200000 in
set_option maxRecDepth 100000 in
theorem number_loop (w:World) (s:ByteArray) (hp:0<s.size) (hs:s.size≤20000) (h:s.data.toList.head? = some 48→s.data.toList=[48]) :
  Calls Tryz.prog 203 #[.string s] w (RetNum9 (if s.data.toList.all isD=true then some (dval s.data.toList) else none) w):=by
 obtain ⟨R,hR⟩:∃ R:Ending→World→Prop,R=RetNum9 (if s.data.toList.all isD=true then some (dval s.data.toList) else none) w:=⟨_,rfl⟩
 rw [← hR]
 have HR:=Lib.hid hR
 clear hR
 have h2:s.toList.isEmpty=false:=by
  rw [ByteArray.toList_eq,List.isEmpty_eq_false_iff]
  intro e; have:=lenB s; rw [e] at this; simp only [List.length_nil] at this; omega
 have h3:((s[0].toNat:Int) == 48)=false ∨ (((s[0].toNat:Int) == 48)=true∧(s.toList == [48])=true):=by
  by_cases e:((s[0].toNat:Int) == 48)=true
  ·right
   refine ⟨e,?_⟩
   rw [ByteArray.toList_eq]
   have e1:s[0].toNat=48:=by have:=beq_iff_eq.1 e; omega
   have e2:s[0]=48:=UInt8.toNat_inj.1 e1
   have:=h (by
    have hd:s.data.toList.head? = s.data.toList[0]?:=by cases s.data.toList <;> rfl
    rw [hd,List.getElem?_eq_getElem (by rw [lenB]; exact hp)]
    exact congrArg some e2)
   simp [this]
  ·left; simpa using e
 clear h
 rcases h3 with h3 | ⟨h3,h4⟩
 all_goals
  go_enter Tryz.func203,Tryz.ntmps203
  go_wp2
  go_loopw [4] (fun iv wr => ∃ k:Nat,k≤s.size∧iv=.int .i64 (k:Nat)∧Hid ((s.data.toList.take k).all isD=true)∧Hid (wr=w)) (fun iv _ => s.size - (intOf iv).toNat)
  case atStart => exact ⟨0,Nat.zero_le _,rfl,rfl,rfl⟩
  case round =>
   obtain ⟨k,hk,rfl,hall,hw⟩:=hrel
   by_cases hlt:k<s.size
   ·by_cases hd:isD s[k]=true
    ·have hd':=(isD_iff _).1 hd
     have HS:Hid ((s.data.toList.take (k+1)).all isD=true):=by
      show _=_; rw [take_snocB s k hlt,List.all_append,hall.out]; simpa using hd
     have hc1':decide ((s[k].toNat:Int)<48)=false:=by rw [decide_eq_false_iff_not]; omega
     have hc2':decide ((57:Int)<(s[k].toNat:Int))=false:=by rw [decide_eq_false_iff_not]; omega
     clear hd hd'
     go_wp2
     exact ⟨⟨k+1,by omega,by go_num,HS.out,hw.out⟩,by show _<_; simp [intOf]; omega⟩
    ·have hF:Hid (s.data.toList.all isD=false):=by
      show _=_
      rw [List.all_eq_false]
      exact ⟨s[k],by rw [show s[k]=s.data.toList[k]'(by rw [lenB]; exact hlt) from rfl]; exact List.getElem_mem _,hd⟩
     have hd':s[k].toNat<48 ∨ (¬ s[k].toNat<48∧57<s[k].toNat):=by
      by_cases h1:s[k].toNat<48
      ·exact .inl h1
      ·right; refine ⟨h1,?_⟩
       apply Classical.byContradiction; intro h9; exact hd ((isD_iff _).2 ⟨by omega,by omega⟩)
     clear hd
     rcases hd' with h1 | ⟨h1,h9⟩
     ·have hc1':decide ((s[k].toNat:Int)<48)=true:=by rw [decide_eq_true_eq]; omega
      clear h1
      go_wp2
      rw [HR.out,hF.out,if_neg (by decide)]
      exact ⟨rfl,by rw [hw.out]; exact Below.refl _ _⟩
     ·have hc1':decide ((s[k].toNat:Int)<48)=false:=by rw [decide_eq_false_iff_not]; omega
      have hc2':decide ((57:Int)<(s[k].toNat:Int))=true:=by rw [decide_eq_true_eq]; omega
      clear h1 h9
      go_wp2
      rw [HR.out,hF.out,if_neg (by decide)]
      exact ⟨rfl,by rw [hw.out]; exact Below.refl _ _⟩
   ·obtain rfl:k=s.size:=by omega
    have hA:Hid (s.data.toList.all isD=true):=by
     have:=hall.out
     rw [← lenB,List.take_length] at this
     exact this
    clear hall
    go_wp2
    go_loopw [0,5] (fun sv ov wy => ∃ (m k:Nat) (S:ByteArray) (O:Nat→Nat),sv=.string S∧S.size=m∧m≤20000∧k≤20000∧Hid (S.data.toList=s.data.toList.take m)∧Hid (Num9 w s.data.toList m k O ov wy)) (fun sv _ _ => match sv with | .string S => S.size | _ => 0)
    case atStart =>
     refine ⟨s.size,0,s,fun _ => 0,rfl,rfl,hs,by omega,?_,World.ownsRow_nil _ _ _ _,by rw [hw.out]; exact Below.refl _ _,fun i hi => by omega,by rw [lenB]; exact Nat.le_refl _,.inr (by rw [lenB]; omega),by omega,?_⟩
     ·show _=_; rw [← lenB,List.take_length]
     ·rw [← lenB,List.take_length,Nat.pow_zero,Nat.mul_one,fval_zero,Nat.add_zero]
    case round =>
     obtain ⟨m,j,S,O,rfl,hS,hm,hj,hSl,hI⟩:=hrel
     by_cases hm0:0<m
     ·obtain ⟨f,hf⟩:∃ f,f=m - 9:=⟨_,rfl⟩
      have hmax:max (0:Int) ((m:Int) - 9)=(f:Int):=by omega
      have hfm:f<m:=by omega
      have hf9:m≤f+9:=by omega
      have HF:=Lib.hid hf
      have HSA:Hid (S.data.toList.all isD=true):=by
       show _=_
       have h1:=hA.out
       rw [hSl.out]
       rw [List.all_eq_true] at h1 ⊢
       exact fun x hx => h1 x (List.mem_of_mem_take hx)
      clear hf
      go_wp2
      clear hmax
      obtain ⟨wo,hwo⟩:∃ wo:World,wo=wr:=⟨_,rfl⟩
      go_loopw [7,8] (fun dv iv wz => ∃ i D:Nat,i≤m∧iv=.int .i64 (i:Nat)∧dv=.int .u32 (D:Nat)∧f≤i∧Hid (Pc9 S.data.toList f i D)∧wz=wo) (fun _ iv _ => m - (intOf iv).toNat)
      case atStart => exact ⟨f,0,by omega,rfl,rfl,Nat.le_refl _,⟨by rw [List.drop_eq_nil_of_le (by rw [List.length_take]; omega)]; rfl,Nat.le_refl _,by rw [Nat.sub_self]; decide⟩,hwo.symm⟩
      case round =>
       obtain ⟨i,D,hi,rfl,rfl,hfi,hpc,rfl⟩:=hrel
       by_cases hlt2:i<m
       ·have hltS:i<S.size:=by omega
        have hdd:isD S[i]=true:=by
         have:=HSA.out
         rw [List.all_eq_true] at this
         exact this _ (by rw [show S[i]=S.data.toList[i]'(by rw [lenB]; exact hltS) from rfl]; exact List.getElem_mem _)
        have hst:Hid (Pc9 S.data.toList f (i+1) (10 * D+(S[i].toNat - 48))):=hpc.out.step hltS hdd
        have hd':=(isD_iff _).1 hdd
        have hc1:(48:Int)≤(S[i].toNat:Int):=by omega
        have hc2:(S[i].toNat:Int)≤57:=by omega
        have hD8:D<100000000:=Nat.lt_of_lt_of_le hpc.out.lt (Nat.le_trans (Nat.pow_le_pow_right (by decide) (show i - f≤8 by omega)) (by decide))
        clear hdd hd'
        go_wp2
        exact ⟨⟨i+1,10 * D+(S[i].toNat - 48),by omega,by go_num,congrArg (Value.int .u32) (by omega),by omega,hst.out,hwo.symm⟩,by show _<_; simp [intOf]; omega⟩
       ·obtain rfl:i=m:=by omega
        have hj9:Hid (j≤1000000000):=by show _≤_; omega
        have hdv:Hid (D=dval ((s.data.toList.take i).drop (i - 9))):=by
         show _=_
         have h1:=hpc.out.val
         rw [hSl.out,List.take_take,Nat.min_self,HF.out] at h1
         exact h1
        have hm1:=Lib.hid hm0
        have hll:Hid (s.data.toList.length≤20000):=by show _≤_; rw [lenB]; exact hs
        go_wp2_with (at_builtin; refine wpList_append_dig rfl _ _ rfl w O j D _ _ hI.out.own ?z (by rfl) (by rfl) hj9.out hI.out.below ?_)
        case z => rfl
        intro v' w2 hown2 hb2
        have hst:=Lib.hid (hI.out.step hm1.out hA.out hdv.out hown2 hb2)
        clear hown2 hb2
        go_wp2
        have hsz:(S.extract 0 f).size=f:=by rw [ByteArray.size_extract]; omega
        have hcn:=hst.out.cnt
        have hl2:=hll.out
        refine ⟨⟨f,j+1,S.extract 0 f,putD O j D,rfl,hsz,by omega,by omega,?_,by rw [HF.out]; exact hst.out⟩,?_⟩
        ·show _=_
         rw [extract_pre,hSl.out,List.take_take,show min f i=f from by omega]
        ·show (S.extract 0 f).size<S.size
         omega
     ·obtain rfl:m=0:=by omega
      have hsl:=Lib.hid (own_sl hI.out.own)
      have hval:Hid (fval B9 O j=dval s.data.toList):=by
       show _=_
       have h1:=hI.out.eq
       rw [List.take_zero,dval_nil,Nat.zero_mul,Nat.zero_add] at h1
       exact h1.symm
      go_wp2_with fail
      refine (rtrim_any (n:=j) (D:=O) hsl.out).mono ?_
      rintro e w' h
      obtain ⟨v,rfl,hv,rfl⟩:=h.num (B:=B9) hI.out.dig
      rw [hval.out] at hv
      have HV:=Lib.hid hv
      clear hv
      go_wp2
      rw [HR.out,if_pos hA.out]
      exact ⟨_,rfl,HV.out,hI.out.below⟩
theorem number9_any (w:World) (s:ByteArray) (hs:s.size≤20000) :
  Calls Tryz.prog 203 #[.string s] w (RetNum9 (parseD s.data.toList) w):=by
 by_cases h0:s.data.toList=[]
 ·rw [show parseD s.data.toList=none from by rw [parseD,if_neg (fun h => h.1 h0)]]
  refine (number_empty w s h0).mono ?_
  rintro e w' ⟨rfl,rfl⟩
  exact ⟨rfl,Below.refl _ _⟩
 ·have hp:0<s.size:=by
   rw [← lenB]; exact List.length_pos_iff.2 h0
  have hh:s.data.toList.head? = some s[0]:=by
   have hd:s.data.toList.head? = s.data.toList[0]?:=by cases s.data.toList <;> rfl
   rw [hd,List.getElem?_eq_getElem (by rw [lenB]; exact hp)]
   rfl
  by_cases h1:s.data.toList.head? = some 48→s.data.toList=[48]
  ·refine (number_loop w s hp hs h1).mono ?_
   intro e w' h
   have e1:parseD s.data.toList=if s.data.toList.all isD=true then some (dval s.data.toList) else none:=by
    rw [parseD]
    by_cases h2:s.data.toList.all isD=true
    ·rw [if_pos ⟨h0,h1,h2⟩,if_pos h2]
    ·rw [if_neg (fun h => h2 h.2.2),if_neg h2]
   rw [e1]; exact h
  ·rw [show parseD s.data.toList=none from by rw [parseD,if_neg (fun h => h1 h.2.1)]]
   have h2:s.data.toList.head? = some 48∧s.data.toList ≠ [48]:=by simpa using h1
   refine (number_zero w s hp (by rw [hh] at h2; exact Option.some.inj h2.1) h2.2).mono ?_
   rintro e w' ⟨rfl,rfl⟩
   exact ⟨rfl,Below.refl _ _⟩
theorem parse9_spec (l:List UInt8):parseQ l=(match parseD (prC l).1,parseD (prD l) with
  | some A,some B => if B=0 then none else if ratS (mkRat (sgn (prN l) A) B)=l then some (mkRat (sgn (prN l) A) B) else none
  | _,_ => none):=by
 cases h:parseQ l with
 | some q =>
  obtain rfl:=(parseQ_iff l q).1 h
  obtain ⟨h1,h2,h3⟩:=ratS_parts q
  rw [h1,h2,h3,parseD_dec,parseD_dec]
  simp only
  rw [if_neg q.den_nz,q_self,if_pos rfl]
 | none =>
  symm
  cases hA:parseD (prC l).1 with
  | none => rfl
  | some A =>
   cases hB:parseD (prD l) with
   | none => rfl
   | some B =>
    simp only
    split
    ·rfl
    ·split
     ·rename_i h2
      have:=(parseQ_iff l _).2 h2.symm
      rw [h] at this; cases this
     ·rfl
theorem parseD_lt {l:List UInt8} {X K:Nat} (h:parseD l=some X) (hl:l.length≤K):X<2 ^ (4 * K):=by
 unfold parseD at h
 split at h
 ·rename_i hc
  rw [← Option.some.inj h]
  refine Nat.lt_of_lt_of_le (dval_lt _ hc.2.2) ?_
  have h1:(10:Nat) ^ l.length≤10 ^ K:=Nat.pow_le_pow_right (by decide) hl
  have h2:(10:Nat) ^ K≤(2 ^ 4) ^ K:=Nat.pow_le_pow_left (by decide) _
  rw [← Nat.pow_mul] at h2
  exact Nat.le_trans h1 h2
 ·exact absurd h (by simp)
def RetP9 (o:Option Rat) (w:World) (e:Ending) (w':World):Prop :=
 match o with
 | some q => ∃ v,e=.returned (.tuple #[v,.int .i64 0])∧Q9 w' v q∧Below w.heap.size w w'
 | none => e=.returned (.tuple #[.agg #[.bool false,.slice none 0 0,.slice none 0 0],.int .i64 7])∧Below w.heap.size w w'
theorem resP (w:World):∃ P:World→Prop,P (w.alloc (.cells #[.bool false,.slice none 0 0,.slice none 0 0] 136))∧Hid (∀ w1 w2,P w1→Below w1.heap.size w1 w2→P w2)∧Hid (∀ w1,P w1→Res9 w1 w.heap.size∧Below w.heap.size w w1) :=
 ⟨fun w1 => Res9 w1 w.heap.size∧Below w.heap.size w w1,⟨Res9.made w _,below_alloc _ _⟩,fun _ _ h h' => ⟨h.1.later h' (World.block_lt_of_cell? _ _ h.1.c0),below_keep h.2 h'⟩,fun _ h => h⟩
theorem prC_len1 (l:List UInt8):(prC l).1.length≤l.length∧(prD l).length≤l.length+1:=by
 have:=prC_len l
 refine ⟨this.1,?_⟩
 unfold prD; split
 ·omega
 ·simp
theorem prD_len {l:List UInt8} (h:l.length≤10000):(prD l).length≤10000:=by
 have:=prC_len l
 unfold prD; split
 ·omega
 ·decide
theorem extract_post (s:ByteArray) (n:Nat):(s.extract n s.size).data.toList=s.data.toList.drop n:=by
 rw [ByteArray.data_extract,Array.toList_extract]
 simp only [List.extract]
 rw [List.take_of_length_le]
 rw [List.length_drop,lenB]; exact Nat.le_refl _
theorem cut_at {s:ByteArray} {i:Nat} (hi:i<s.size) (h:s[i]=47) (hn:(47:UInt8) ∉ s.data.toList.take i):Lib.cut s.data.toList [47]=(s.data.toList.take i,s.data.toList.drop (i+1),true):=by
 have e:s.data.toList=s.data.toList.take i ++ 47 :: s.data.toList.drop (i+1):=by
  conv => lhs; rw [← List.take_append_drop i s.data.toList]
  rw [List.drop_eq_getElem_cons (by rw [lenB]; exact hi)]
  congr 2
 conv => lhs; rw [e]
 exact cut_some hn
set_option maxHeartbeats 16000000 in
set_option maxRecDepth 100000 in
theorem parse9_A (s:ByteArray) (w:World) (hs:s.size≤10000) (h0:s.data.toList=[]) :
  Calls Tryz.prog 206 #[.string s] w (RetP9 (parseQ s.data.toList) w):=by
 have hd:decide ((10000:Int)<(s.size:Int))=false:=by rw [decide_eq_false_iff_not]; omega
 obtain ⟨l,hl⟩:∃ l,l=s.data.toList:=⟨_,rfl⟩
 have hll:l.length≤10000:=by rw [hl,lenB]; exact hs
 obtain ⟨R,hR⟩:∃ R:Ending→World→Prop,R=RetP9 (parseQ l) w:=⟨_,rfl⟩
 rw [← hl,← hR]
 have HR:=Lib.hid hR
 have HSL:Hid (s.data.toList=l):=hl.symm
 have hlen:=prC_len1 l
 have hrl:Hid (s.data.toList=Lib.trimPrefix l [45]):=by show _=_; rw [hl,h0]; rfl
 have hneg:Hid (prN l=false):=by show _=_; rw [hl,h0]; rfl
 have hsz:s.size=0:=by rw [← lenB,h0]; rfl
 have hrsz:s.size≤10000:=hs
 clear h0
 have hsp:=parse9_spec l
 rw [hneg.out] at hsp
 obtain ⟨oA,hA⟩:∃ oA,oA=parseD (prC l).1:=⟨_,rfl⟩
 obtain ⟨oB,hB⟩:∃ oB,oB=parseD (prD l):=⟨_,rfl⟩
 rw [← hA,← hB] at hsp
 have HS:Hid ((oA=none→parseQ l=none)∧(oB=none→parseQ l=none)∧(∀ A B,oA=some A→oB=some B→B=0→parseQ l=none)∧(∀ A B,oA=some A→oB=some B→B ≠ 0→(ratS (mkRat (sgn false A) B)=l→parseQ l=some (mkRat (sgn false A) B))∧(ratS (mkRat (sgn false A) B) ≠ l→parseQ l=none))):=by
  refine ⟨fun h => ?_,fun h => ?_,fun A B h1 h2 h3 => ?_,fun A B h1 h2 h3 => ⟨fun h4 => ?_,fun h4 => ?_⟩⟩
  ·rw [hsp,h]
  ·rw [hsp,h]; cases oA <;> simp
  ·rw [hsp,h1,h2]; simp only; rw [if_pos h3]
  ·rw [hsp,h1,h2]; simp only; rw [if_neg h3,if_pos h4]
  ·rw [hsp,h1,h2]; simp only; rw [if_neg h3,if_neg h4]
 obtain ⟨k,hk,HL⟩:∃ k,Hid (k≤900000)∧Hid ((∀ A,oA=some A→A<2 ^ k)∧(∀ B,oB=some B→B<2 ^ k)):=by
  obtain ⟨K,hK⟩:∃ K:Nat,K=10000:=⟨_,rfl⟩
  exact ⟨4 * K,by show _≤_; omega,fun A h => parseD_lt (h ▸ hA).symm (by omega),fun B h => parseD_lt (h ▸ hB).symm (by have:=prD_len hll; omega)⟩
 have NA:Hid (∀ w1 (S:ByteArray),S.data.toList=(prC l).1→Calls Tryz.prog 203 #[.string S] w1 (RetNum9 oA w1)):=fun w1 S h => by
  rw [hA,← h]; exact number9_any w1 S (by rw [← lenB,h]; omega)
 have NB:Hid (∀ w1 (S:ByteArray),S.data.toList=prD l→Calls Tryz.prog 203 #[.string S] w1 (RetNum9 oB w1)):=fun w1 S h => by
  rw [hB,← h]; exact number9_any w1 S (by rw [← lenB,h]; omega)
 obtain ⟨P,p0,PK,PG⟩:=resP w
 have P0:=Lib.hid p0
 have hrs:s.size≤10000:=hrsz
 clear hl hll hR hlen hsp hA hB p0 hrsz
 go_enter Tryz.func206,Tryz.ntmps206
 go_wp2
 go_loopw [6,7,8] (fun nv dv iv wr => ∃ i:Nat,i≤s.size∧iv=.int .i64 (i:Nat)∧nv=.string s∧dv=.string ⟨#[49]⟩∧Hid ((47:UInt8) ∉ s.data.toList.take i)∧Hid (P wr)) (fun _ _ iv _ => s.size - (intOf iv).toNat)
 case atStart => exact ⟨0,Nat.zero_le _,rfl,rfl,rfl,by show ¬ _; simp,P0.out⟩
 case round =>
  obtain ⟨i,hi,rfl,rfl,rfl,hno,hp⟩:=hrel
  by_cases hlt:i<s.size
  ·exfalso; omega
  ·obtain rfl:i=s.size:=by omega
   have hcut:Hid (Lib.cut s.data.toList [47]=(s.data.toList,[],false)):=by
    have h1:=hno.out
    rw [← lenB,List.take_length] at h1
    exact cut_none h1
   have N1:=Lib.hid (fun w1 => NA.out w1 s (by rw [prC,← hrl.out,hcut.out]))
   have N2:=Lib.hid (fun w1 => NB.out w1 ⟨#[49]⟩ (by rw [prD,prC,← hrl.out,hcut.out]; rfl))
   have PC:=hp
   clear hno hcut
   go_wp2_with fail
   refine (N1.out _).mono ?_
   cases oA with
   | none =>
    rintro e w1 ⟨rfl,hb1⟩
    have P1:=Lib.hid (PK.out _ _ PC.out hb1)
    have HPN:=Lib.hid (HS.out.1 rfl)
    clear hb1
    go_wp2_with fail
    refine (N2.out _).mono ?_
    cases oB with
    | none =>
     rintro e w2 ⟨rfl,hb2⟩
     have P2:=Lib.hid (PK.out _ _ P1.out hb2)
     clear hb2
     have HW:=Lib.hid (PG.out _ P2.out)
     obtain ⟨r0,r1,r2,f0,f1,f2⟩:=HW.out.1
     have HBW:=Lib.hid HW.out.2
     go_wp2
     refine bodyPost_ret (by simp [results,Tryz.results206,go_sem,r0,r1,r2]; try rfl) rfl ?_
     rw [HR.out,HPN.out]
     first | exact ⟨rfl,HBW.out⟩ | exact ⟨rfl,below_set3 HBW.out⟩
    | some B =>
     rintro e w2 ⟨v2,rfl,hv2,hb2⟩
     have P2:=Lib.hid (PK.out _ _ P1.out hb2)
     obtain ⟨a4,n4,c4,rfl,-⟩:=hv2.shape (by decide)
     clear hb2 hv2
     have HW:=Lib.hid (PG.out _ P2.out)
     obtain ⟨r0,r1,r2,f0,f1,f2⟩:=HW.out.1
     have HBW:=Lib.hid HW.out.2
     go_wp2
     refine bodyPost_ret (by simp [results,Tryz.results206,go_sem,r0,r1,r2]; try rfl) rfl ?_
     rw [HR.out,HPN.out]
     first | exact ⟨rfl,HBW.out⟩ | exact ⟨rfl,below_set3 HBW.out⟩
   | some A =>
    rintro e w1 ⟨v1,rfl,hv1,hb1⟩
    have P1:=Lib.hid (PK.out _ _ PC.out hb1)
    have V1:=Lib.hid hv1
    obtain ⟨a3,n3,c3,rfl,-⟩:=hv1.shape (by decide)
    clear hb1 hv1
    go_wp2_with fail
    refine (N2.out _).mono ?_
    cases oB with
    | none =>
     rintro e w2 ⟨rfl,hb2⟩
     have P2:=Lib.hid (PK.out _ _ P1.out hb2)
     have HPN:=Lib.hid (HS.out.2.1 rfl)
     clear hb2
     have HW:=Lib.hid (PG.out _ P2.out)
     obtain ⟨r0,r1,r2,f0,f1,f2⟩:=HW.out.1
     have HBW:=Lib.hid HW.out.2
     go_wp2
     refine bodyPost_ret (by simp [results,Tryz.results206,go_sem,r0,r1,r2]; try rfl) rfl ?_
     rw [HR.out,HPN.out]
     first | exact ⟨rfl,HBW.out⟩ | exact ⟨rfl,below_set3 HBW.out⟩
    | some B =>
     rintro e w2 ⟨v2,rfl,hv2,hb2⟩
     have P2:=Lib.hid (PK.out _ _ P1.out hb2)
     have V1:=Lib.hid (V1.out.later hb2)
     have V2:=Lib.hid hv2
     obtain ⟨a4,n4,c4,rfl,hz4⟩:=hv2.shape (by decide)
     clear hb2 hv2
     by_cases h4:n4=0
     ·subst h4
      have HPN:=Lib.hid (HS.out.2.2.1 A B rfl rfl (hz4.1 rfl))
      clear hz4
      have HW:=Lib.hid (PG.out _ P2.out)
      obtain ⟨r0,r1,r2,f0,f1,f2⟩:=HW.out.1
      have HBW:=Lib.hid HW.out.2
      go_wp2
      refine bodyPost_ret (by simp [results,Tryz.results206,go_sem,r0,r1,r2]; try rfl) rfl ?_
      rw [HR.out,HPN.out]
      first | exact ⟨rfl,HBW.out⟩ | exact ⟨rfl,below_set3 HBW.out⟩
     ·have hn4:((n4:Int) == 0)=false:=by rw [beq_eq_false_iff_ne]; omega
      have HB0:Hid (B ≠ 0):=fun e => h4 (hz4.2 e)
      have HQS:=Lib.hid (HS.out.2.2.2 A B rfl rfl HB0.out)
      have HLA:=Lib.hid (HL.out.1 A rfl)
      have HLB:=Lib.hid (HL.out.2 B rfl)
      obtain ⟨q,hq⟩:∃ q,q=mkRat (sgn false A) B:=⟨_,rfl⟩
      have CR:Hid (∀ w1,IsN B9 w1 (.slice a3 n3 c3) A→IsN B9 w1 (.slice a4 n4 c4) B→Calls Tryz.prog 224 #[.bool false,.slice a3 n3 c3,.slice a4 n4 c4] w1 (RetQ9 q w1)):=fun w1 h1 h2 => hq ▸ red9_any (k:=k) h1 h2 HLA.out HLB.out (Nat.le_trans hk.out (by decide)) HB0.out
      have BD:Hid (Bd k q):=hq ▸ Bd.made false HLA.out HLB.out HB0.out
      rw [← hq] at HQS
      clear hz4 h4 hq
      go_wp2_with fail
      refine (CR.out _ V1.out V2.out).mono ?_
      rintro e w3 ⟨v3,rfl,⟨vn,vd,rfl,hn,hd⟩,hb3⟩
      have P3:=Lib.hid (PK.out _ _ P2.out hb3)
      obtain ⟨a5,n5,c5,rfl,-⟩:=hn.shape (by decide)
      obtain ⟨a6,n6,c6,rfl,-⟩:=hd.shape (by decide)
      obtain ⟨c,hc⟩:∃ c,c=qneg q:=⟨_,rfl⟩
      rw [← hc]
      obtain ⟨PB,p0,KK,-,GG⟩:=boxP 136 hc hn hd
      have PB0:=Lib.hid p0
      have P4:=Lib.hid (PK.out _ _ P3.out (below_alloc w3 (.cells #[.bool c,.slice a5 n5 c5,.slice a6 n6 c6] 136)))
      obtain ⟨⟨k0,k1,k2,-,-⟩,-⟩:=GG.out _ p0
      have CT:=Lib.hid (text9_any (v:=.agg #[.bool c,.slice a5 n5 c5,.slice a6 n6 c6]) ⟨_,_,by rw [hc],(GG.out _ p0).1.isNum,(GG.out _ p0).1.isDen⟩ BD.out (Nat.le_trans hk.out (by decide)))
      obtain ⟨T,hT⟩:∃ T:ByteArray,T=⟨(ratS q).toArray⟩:=⟨_,rfl⟩
      rw [show str (ratS q)=.string T from by rw [hT]] at CT
      have HC:=Lib.hid hc
      by_cases hrl:ratS q=l
      ·have hts:(T.toList == s.toList)=true:=by
        rw [ByteArray.toList_eq,ByteArray.toList_eq,HSL.out,hT,beq_iff_eq]; simpa using hrl
       have HPS:=Lib.hid (HQS.out.1 hrl)
       clear hrl hT hn hd hb3 p0 hc
       go_wp2_with fail
       refine CT.out.mono ?_
       rintro e w5 ⟨rfl,hb5⟩
       have PB5:=Lib.hid (KK.out _ _ PB0.out hb5)
       have P5:=Lib.hid (PK.out _ _ P4.out hb5)
       clear hb5 k0 k1 k2
       obtain ⟨⟨k0,k1,k2,hn5,hd5⟩,-⟩:=GG.out _ PB5.out
       have HN5:=Lib.hid hn5
       have HD5:=Lib.hid hd5
       have HW:=Lib.hid (PG.out _ P5.out)
       obtain ⟨r0,r1,r2,f0,f1,f2⟩:=HW.out.1
       clear hn5 hd5
       go_wp2
       refine bodyPost_ret (by simp [results,Tryz.results206,go_sem,r0,r1,r2]; try rfl) rfl ?_
       rw [HR.out,HPS.out]
       exact ⟨_,rfl,⟨_,_,by rw [HC.out],HW.out.1.set3 HN5.out _ _ _,HW.out.1.set3 HD5.out _ _ _⟩,below_set3 HW.out.2⟩
      ·have hts:(T.toList == s.toList)=false:=by
        rw [ByteArray.toList_eq,ByteArray.toList_eq,HSL.out,hT,beq_eq_false_iff_ne]; simpa using hrl
       have HPN:=Lib.hid (HQS.out.2 hrl)
       clear hrl hT hn hd hb3 p0 hc
       go_wp2_with fail
       refine CT.out.mono ?_
       rintro e w5 ⟨rfl,hb5⟩
       have P5:=Lib.hid (PK.out _ _ P4.out hb5)
       clear hb5 k0 k1 k2
       have HW:=Lib.hid (PG.out _ P5.out)
       obtain ⟨r0,r1,r2,f0,f1,f2⟩:=HW.out.1
       have HBW:=Lib.hid HW.out.2
       go_wp2
       refine bodyPost_ret (by simp [results,Tryz.results206,go_sem,r0,r1,r2]; try rfl) rfl ?_
       rw [HR.out,HPN.out]
       first | exact ⟨rfl,HBW.out⟩ | exact ⟨rfl,below_set3 HBW.out⟩
set_option maxHeartbeats 16000000 in
set_option maxRecDepth 100000 in
theorem parse9_B (s:ByteArray) (w:World) (hs:s.size≤10000) (hp:0<s.size) (h0:s[0] ≠ 45) :
  Calls Tryz.prog 206 #[.string s] w (RetP9 (parseQ s.data.toList) w):=by
 have hd:decide ((10000:Int)<(s.size:Int))=false:=by rw [decide_eq_false_iff_not]; omega
 obtain ⟨l,hl⟩:∃ l,l=s.data.toList:=⟨_,rfl⟩
 have hll:l.length≤10000:=by rw [hl,lenB]; exact hs
 obtain ⟨R,hR⟩:∃ R:Ending→World→Prop,R=RetP9 (parseQ l) w:=⟨_,rfl⟩
 rw [← hl,← hR]
 have HR:=Lib.hid hR
 have HSL:Hid (s.data.toList=l):=hl.symm
 have hlen:=prC_len1 l
 have hh:s.data.toList.head? = some s[0]:=by
  have hd:s.data.toList.head? = s.data.toList[0]?:=by cases s.data.toList <;> rfl
  rw [hd,List.getElem?_eq_getElem (by rw [lenB]; exact hp)]
  rfl
 have htr:=trim45_neg (a:=l) (by rw [hl,hh]; intro e; exact h0 (Option.some.inj e))
 have hrl:Hid (s.data.toList=Lib.trimPrefix l [45]):=by show _=_; rw [htr.1,hl]
 have hneg:Hid (prN l=false):=htr.2
 have hc0:((s[0].toNat:Int) == 45)=false:=by rw [beq_eq_false_iff_ne]; intro e; exact h0 (UInt8.toNat_inj.1 (by rw [show (45:UInt8).toNat=45 from rfl]; omega))
 have hrsz:s.size≤10000:=hs
 clear h0 hh htr
 have hsp:=parse9_spec l
 rw [hneg.out] at hsp
 obtain ⟨oA,hA⟩:∃ oA,oA=parseD (prC l).1:=⟨_,rfl⟩
 obtain ⟨oB,hB⟩:∃ oB,oB=parseD (prD l):=⟨_,rfl⟩
 rw [← hA,← hB] at hsp
 have HS:Hid ((oA=none→parseQ l=none)∧(oB=none→parseQ l=none)∧(∀ A B,oA=some A→oB=some B→B=0→parseQ l=none)∧(∀ A B,oA=some A→oB=some B→B ≠ 0→(ratS (mkRat (sgn false A) B)=l→parseQ l=some (mkRat (sgn false A) B))∧(ratS (mkRat (sgn false A) B) ≠ l→parseQ l=none))):=by
  refine ⟨fun h => ?_,fun h => ?_,fun A B h1 h2 h3 => ?_,fun A B h1 h2 h3 => ⟨fun h4 => ?_,fun h4 => ?_⟩⟩
  ·rw [hsp,h]
  ·rw [hsp,h]; cases oA <;> simp
  ·rw [hsp,h1,h2]; simp only; rw [if_pos h3]
  ·rw [hsp,h1,h2]; simp only; rw [if_neg h3,if_pos h4]
  ·rw [hsp,h1,h2]; simp only; rw [if_neg h3,if_neg h4]
 obtain ⟨k,hk,HL⟩:∃ k,Hid (k≤900000)∧Hid ((∀ A,oA=some A→A<2 ^ k)∧(∀ B,oB=some B→B<2 ^ k)):=by
  obtain ⟨K,hK⟩:∃ K:Nat,K=10000:=⟨_,rfl⟩
  exact ⟨4 * K,by show _≤_; omega,fun A h => parseD_lt (h ▸ hA).symm (by omega),fun B h => parseD_lt (h ▸ hB).symm (by have:=prD_len hll; omega)⟩
 have NA:Hid (∀ w1 (S:ByteArray),S.data.toList=(prC l).1→Calls Tryz.prog 203 #[.string S] w1 (RetNum9 oA w1)):=fun w1 S h => by
  rw [hA,← h]; exact number9_any w1 S (by rw [← lenB,h]; omega)
 have NB:Hid (∀ w1 (S:ByteArray),S.data.toList=prD l→Calls Tryz.prog 203 #[.string S] w1 (RetNum9 oB w1)):=fun w1 S h => by
  rw [hB,← h]; exact number9_any w1 S (by rw [← lenB,h]; omega)
 obtain ⟨P,p0,PK,PG⟩:=resP w
 have P0:=Lib.hid p0
 have hrs:s.size≤10000:=hrsz
 clear hl hll hR hlen hsp hA hB p0 hrsz
 go_enter Tryz.func206,Tryz.ntmps206
 go_wp2
 go_loopw [6,7,8] (fun nv dv iv wr => ∃ i:Nat,i≤s.size∧iv=.int .i64 (i:Nat)∧nv=.string s∧dv=.string ⟨#[49]⟩∧Hid ((47:UInt8) ∉ s.data.toList.take i)∧Hid (P wr)) (fun _ _ iv _ => s.size - (intOf iv).toNat)
 case atStart => exact ⟨0,Nat.zero_le _,rfl,rfl,rfl,by show ¬ _; simp,P0.out⟩
 case round =>
  obtain ⟨i,hi,rfl,rfl,rfl,hno,hp⟩:=hrel
  by_cases hlt:i<s.size
  ·by_cases h47:s[i]=47
   ·have hc:((s[i].toNat:Int) == 47)=true:=by rw [h47]; rfl
    have hcut:=Lib.hid (cut_at hlt h47 hno.out)
    have N1:=Lib.hid (fun w1 => NA.out w1 (s.extract 0 i) (by rw [extract_pre,prC,← hrl.out,hcut.out]))
    have N2:=Lib.hid (fun w1 => NB.out w1 (s.extract (i+1) s.size) (by rw [extract_post,prD,prC,← hrl.out,hcut.out]; rfl))
    have PC:=Lib.hid (PK.out _ _ hp.out (below_drewN' _ 1))
    have b1:(0:Int)≤(i:Int):=by omega
    have b2:(i:Int)≤(s.size:Int):=by omega
    have b3:(0:Int)≤(i:Int)+1:=by omega
    have b4:(i:Int)+1≤(s.size:Int):=by omega
    clear h47 hno hcut
    go_wp2
    go_quiet (fail)
    replace PC:=Lib.hid (PK.out _ _ hp.out (below_drewN' _ nq))
    go_wp2_with fail
    refine (N1.out _).mono ?_
    cases oA with
    | none =>
     rintro e w1 ⟨rfl,hb1⟩
     have P1:=Lib.hid (PK.out _ _ PC.out hb1)
     have HPN:=Lib.hid (HS.out.1 rfl)
     clear hb1
     go_wp2_with fail
     refine (N2.out _).mono ?_
     cases oB with
     | none =>
      rintro e w2 ⟨rfl,hb2⟩
      have P2:=Lib.hid (PK.out _ _ P1.out hb2)
      clear hb2
      have HW:=Lib.hid (PG.out _ P2.out)
      obtain ⟨r0,r1,r2,f0,f1,f2⟩:=HW.out.1
      have HBW:=Lib.hid HW.out.2
      go_wp2
      refine bodyPost_ret (by simp [results,Tryz.results206,go_sem,r0,r1,r2]; try rfl) rfl ?_
      rw [HR.out,HPN.out]
      first | exact ⟨rfl,HBW.out⟩ | exact ⟨rfl,below_set3 HBW.out⟩
     | some B =>
      rintro e w2 ⟨v2,rfl,hv2,hb2⟩
      have P2:=Lib.hid (PK.out _ _ P1.out hb2)
      obtain ⟨a4,n4,c4,rfl,-⟩:=hv2.shape (by decide)
      clear hb2 hv2
      have HW:=Lib.hid (PG.out _ P2.out)
      obtain ⟨r0,r1,r2,f0,f1,f2⟩:=HW.out.1
      have HBW:=Lib.hid HW.out.2
      go_wp2
      refine bodyPost_ret (by simp [results,Tryz.results206,go_sem,r0,r1,r2]; try rfl) rfl ?_
      rw [HR.out,HPN.out]
      first | exact ⟨rfl,HBW.out⟩ | exact ⟨rfl,below_set3 HBW.out⟩
    | some A =>
     rintro e w1 ⟨v1,rfl,hv1,hb1⟩
     have P1:=Lib.hid (PK.out _ _ PC.out hb1)
     have V1:=Lib.hid hv1
     obtain ⟨a3,n3,c3,rfl,-⟩:=hv1.shape (by decide)
     clear hb1 hv1
     go_wp2_with fail
     refine (N2.out _).mono ?_
     cases oB with
     | none =>
      rintro e w2 ⟨rfl,hb2⟩
      have P2:=Lib.hid (PK.out _ _ P1.out hb2)
      have HPN:=Lib.hid (HS.out.2.1 rfl)
      clear hb2
      have HW:=Lib.hid (PG.out _ P2.out)
      obtain ⟨r0,r1,r2,f0,f1,f2⟩:=HW.out.1
      have HBW:=Lib.hid HW.out.2
      go_wp2
      refine bodyPost_ret (by simp [results,Tryz.results206,go_sem,r0,r1,r2]; try rfl) rfl ?_
      rw [HR.out,HPN.out]
      first | exact ⟨rfl,HBW.out⟩ | exact ⟨rfl,below_set3 HBW.out⟩
     | some B =>
      rintro e w2 ⟨v2,rfl,hv2,hb2⟩
      have P2:=Lib.hid (PK.out _ _ P1.out hb2)
      have V1:=Lib.hid (V1.out.later hb2)
      have V2:=Lib.hid hv2
      obtain ⟨a4,n4,c4,rfl,hz4⟩:=hv2.shape (by decide)
      clear hb2 hv2
      by_cases h4:n4=0
      ·subst h4
       have HPN:=Lib.hid (HS.out.2.2.1 A B rfl rfl (hz4.1 rfl))
       clear hz4
       have HW:=Lib.hid (PG.out _ P2.out)
       obtain ⟨r0,r1,r2,f0,f1,f2⟩:=HW.out.1
       have HBW:=Lib.hid HW.out.2
       go_wp2
       refine bodyPost_ret (by simp [results,Tryz.results206,go_sem,r0,r1,r2]; try rfl) rfl ?_
       rw [HR.out,HPN.out]
       first | exact ⟨rfl,HBW.out⟩ | exact ⟨rfl,below_set3 HBW.out⟩
      ·have hn4:((n4:Int) == 0)=false:=by rw [beq_eq_false_iff_ne]; omega
       have HB0:Hid (B ≠ 0):=fun e => h4 (hz4.2 e)
       have HQS:=Lib.hid (HS.out.2.2.2 A B rfl rfl HB0.out)
       have HLA:=Lib.hid (HL.out.1 A rfl)
       have HLB:=Lib.hid (HL.out.2 B rfl)
       obtain ⟨q,hq⟩:∃ q,q=mkRat (sgn false A) B:=⟨_,rfl⟩
       have CR:Hid (∀ w1,IsN B9 w1 (.slice a3 n3 c3) A→IsN B9 w1 (.slice a4 n4 c4) B→Calls Tryz.prog 224 #[.bool false,.slice a3 n3 c3,.slice a4 n4 c4] w1 (RetQ9 q w1)):=fun w1 h1 h2 => hq ▸ red9_any (k:=k) h1 h2 HLA.out HLB.out (Nat.le_trans hk.out (by decide)) HB0.out
       have BD:Hid (Bd k q):=hq ▸ Bd.made false HLA.out HLB.out HB0.out
       rw [← hq] at HQS
       clear hz4 h4 hq
       go_wp2_with fail
       refine (CR.out _ V1.out V2.out).mono ?_
       rintro e w3 ⟨v3,rfl,⟨vn,vd,rfl,hn,hd⟩,hb3⟩
       have P3:=Lib.hid (PK.out _ _ P2.out hb3)
       obtain ⟨a5,n5,c5,rfl,-⟩:=hn.shape (by decide)
       obtain ⟨a6,n6,c6,rfl,-⟩:=hd.shape (by decide)
       obtain ⟨c,hc⟩:∃ c,c=qneg q:=⟨_,rfl⟩
       rw [← hc]
       obtain ⟨PB,p0,KK,-,GG⟩:=boxP 136 hc hn hd
       have PB0:=Lib.hid p0
       have P4:=Lib.hid (PK.out _ _ P3.out (below_alloc w3 (.cells #[.bool c,.slice a5 n5 c5,.slice a6 n6 c6] 136)))
       obtain ⟨⟨k0,k1,k2,-,-⟩,-⟩:=GG.out _ p0
       have CT:=Lib.hid (text9_any (v:=.agg #[.bool c,.slice a5 n5 c5,.slice a6 n6 c6]) ⟨_,_,by rw [hc],(GG.out _ p0).1.isNum,(GG.out _ p0).1.isDen⟩ BD.out (Nat.le_trans hk.out (by decide)))
       obtain ⟨T,hT⟩:∃ T:ByteArray,T=⟨(ratS q).toArray⟩:=⟨_,rfl⟩
       rw [show str (ratS q)=.string T from by rw [hT]] at CT
       have HC:=Lib.hid hc
       by_cases hrl:ratS q=l
       ·have hts:(T.toList == s.toList)=true:=by
         rw [ByteArray.toList_eq,ByteArray.toList_eq,HSL.out,hT,beq_iff_eq]; simpa using hrl
        have HPS:=Lib.hid (HQS.out.1 hrl)
        clear hrl hT hn hd hb3 p0 hc
        go_wp2_with fail
        refine CT.out.mono ?_
        rintro e w5 ⟨rfl,hb5⟩
        have PB5:=Lib.hid (KK.out _ _ PB0.out hb5)
        have P5:=Lib.hid (PK.out _ _ P4.out hb5)
        clear hb5 k0 k1 k2
        obtain ⟨⟨k0,k1,k2,hn5,hd5⟩,-⟩:=GG.out _ PB5.out
        have HN5:=Lib.hid hn5
        have HD5:=Lib.hid hd5
        have HW:=Lib.hid (PG.out _ P5.out)
        obtain ⟨r0,r1,r2,f0,f1,f2⟩:=HW.out.1
        clear hn5 hd5
        go_wp2
        refine bodyPost_ret (by simp [results,Tryz.results206,go_sem,r0,r1,r2]; try rfl) rfl ?_
        rw [HR.out,HPS.out]
        exact ⟨_,rfl,⟨_,_,by rw [HC.out],HW.out.1.set3 HN5.out _ _ _,HW.out.1.set3 HD5.out _ _ _⟩,below_set3 HW.out.2⟩
       ·have hts:(T.toList == s.toList)=false:=by
         rw [ByteArray.toList_eq,ByteArray.toList_eq,HSL.out,hT,beq_eq_false_iff_ne]; simpa using hrl
        have HPN:=Lib.hid (HQS.out.2 hrl)
        clear hrl hT hn hd hb3 p0 hc
        go_wp2_with fail
        refine CT.out.mono ?_
        rintro e w5 ⟨rfl,hb5⟩
        have P5:=Lib.hid (PK.out _ _ P4.out hb5)
        clear hb5 k0 k1 k2
        have HW:=Lib.hid (PG.out _ P5.out)
        obtain ⟨r0,r1,r2,f0,f1,f2⟩:=HW.out.1
        have HBW:=Lib.hid HW.out.2
        go_wp2
        refine bodyPost_ret (by simp [results,Tryz.results206,go_sem,r0,r1,r2]; try rfl) rfl ?_
        rw [HR.out,HPN.out]
        first | exact ⟨rfl,HBW.out⟩ | exact ⟨rfl,below_set3 HBW.out⟩
   ·have hc:((s[i].toNat:Int) == 47)=false:=by
     rw [beq_eq_false_iff_ne]; intro e; exact h47 (UInt8.toNat_inj.1 (by rw [show (47:UInt8).toNat=47 from rfl]; omega))
    have HNO:Hid ((47:UInt8) ∉ s.data.toList.take (i+1)):=by
     show ¬ _
     rw [take_snocB _ i hlt,List.mem_append]
     rintro (h | h)
     ·exact hno.out h
     ·simp at h; exact h47 h.symm
    clear h47
    go_wp2
    exact ⟨⟨i+1,by omega,by go_num,rfl,rfl,HNO.out,hp.out⟩,by show _<_; simp [intOf]; omega⟩
  ·obtain rfl:i=s.size:=by omega
   have hcut:Hid (Lib.cut s.data.toList [47]=(s.data.toList,[],false)):=by
    have h1:=hno.out
    rw [← lenB,List.take_length] at h1
    exact cut_none h1
   have N1:=Lib.hid (fun w1 => NA.out w1 s (by rw [prC,← hrl.out,hcut.out]))
   have N2:=Lib.hid (fun w1 => NB.out w1 ⟨#[49]⟩ (by rw [prD,prC,← hrl.out,hcut.out]; rfl))
   have PC:=hp
   clear hno hcut
   go_wp2_with fail
   refine (N1.out _).mono ?_
   cases oA with
   | none =>
    rintro e w1 ⟨rfl,hb1⟩
    have P1:=Lib.hid (PK.out _ _ PC.out hb1)
    have HPN:=Lib.hid (HS.out.1 rfl)
    clear hb1
    go_wp2_with fail
    refine (N2.out _).mono ?_
    cases oB with
    | none =>
     rintro e w2 ⟨rfl,hb2⟩
     have P2:=Lib.hid (PK.out _ _ P1.out hb2)
     clear hb2
     have HW:=Lib.hid (PG.out _ P2.out)
     obtain ⟨r0,r1,r2,f0,f1,f2⟩:=HW.out.1
     have HBW:=Lib.hid HW.out.2
     go_wp2
     refine bodyPost_ret (by simp [results,Tryz.results206,go_sem,r0,r1,r2]; try rfl) rfl ?_
     rw [HR.out,HPN.out]
     first | exact ⟨rfl,HBW.out⟩ | exact ⟨rfl,below_set3 HBW.out⟩
    | some B =>
     rintro e w2 ⟨v2,rfl,hv2,hb2⟩
     have P2:=Lib.hid (PK.out _ _ P1.out hb2)
     obtain ⟨a4,n4,c4,rfl,-⟩:=hv2.shape (by decide)
     clear hb2 hv2
     have HW:=Lib.hid (PG.out _ P2.out)
     obtain ⟨r0,r1,r2,f0,f1,f2⟩:=HW.out.1
     have HBW:=Lib.hid HW.out.2
     go_wp2
     refine bodyPost_ret (by simp [results,Tryz.results206,go_sem,r0,r1,r2]; try rfl) rfl ?_
     rw [HR.out,HPN.out]
     first | exact ⟨rfl,HBW.out⟩ | exact ⟨rfl,below_set3 HBW.out⟩
   | some A =>
    rintro e w1 ⟨v1,rfl,hv1,hb1⟩
    have P1:=Lib.hid (PK.out _ _ PC.out hb1)
    have V1:=Lib.hid hv1
    obtain ⟨a3,n3,c3,rfl,-⟩:=hv1.shape (by decide)
    clear hb1 hv1
    go_wp2_with fail
    refine (N2.out _).mono ?_
    cases oB with
    | none =>
     rintro e w2 ⟨rfl,hb2⟩
     have P2:=Lib.hid (PK.out _ _ P1.out hb2)
     have HPN:=Lib.hid (HS.out.2.1 rfl)
     clear hb2
     have HW:=Lib.hid (PG.out _ P2.out)
     obtain ⟨r0,r1,r2,f0,f1,f2⟩:=HW.out.1
     have HBW:=Lib.hid HW.out.2
     go_wp2
     refine bodyPost_ret (by simp [results,Tryz.results206,go_sem,r0,r1,r2]; try rfl) rfl ?_
     rw [HR.out,HPN.out]
     first | exact ⟨rfl,HBW.out⟩ | exact ⟨rfl,below_set3 HBW.out⟩
    | some B =>
     rintro e w2 ⟨v2,rfl,hv2,hb2⟩
     have P2:=Lib.hid (PK.out _ _ P1.out hb2)
     have V1:=Lib.hid (V1.out.later hb2)
     have V2:=Lib.hid hv2
     obtain ⟨a4,n4,c4,rfl,hz4⟩:=hv2.shape (by decide)
     clear hb2 hv2
     by_cases h4:n4=0
     ·subst h4
      have HPN:=Lib.hid (HS.out.2.2.1 A B rfl rfl (hz4.1 rfl))
      clear hz4
      have HW:=Lib.hid (PG.out _ P2.out)
      obtain ⟨r0,r1,r2,f0,f1,f2⟩:=HW.out.1
      have HBW:=Lib.hid HW.out.2
      go_wp2
      refine bodyPost_ret (by simp [results,Tryz.results206,go_sem,r0,r1,r2]; try rfl) rfl ?_
      rw [HR.out,HPN.out]
      first | exact ⟨rfl,HBW.out⟩ | exact ⟨rfl,below_set3 HBW.out⟩
     ·have hn4:((n4:Int) == 0)=false:=by rw [beq_eq_false_iff_ne]; omega
      have HB0:Hid (B ≠ 0):=fun e => h4 (hz4.2 e)
      have HQS:=Lib.hid (HS.out.2.2.2 A B rfl rfl HB0.out)
      have HLA:=Lib.hid (HL.out.1 A rfl)
      have HLB:=Lib.hid (HL.out.2 B rfl)
      obtain ⟨q,hq⟩:∃ q,q=mkRat (sgn false A) B:=⟨_,rfl⟩
      have CR:Hid (∀ w1,IsN B9 w1 (.slice a3 n3 c3) A→IsN B9 w1 (.slice a4 n4 c4) B→Calls Tryz.prog 224 #[.bool false,.slice a3 n3 c3,.slice a4 n4 c4] w1 (RetQ9 q w1)):=fun w1 h1 h2 => hq ▸ red9_any (k:=k) h1 h2 HLA.out HLB.out (Nat.le_trans hk.out (by decide)) HB0.out
      have BD:Hid (Bd k q):=hq ▸ Bd.made false HLA.out HLB.out HB0.out
      rw [← hq] at HQS
      clear hz4 h4 hq
      go_wp2_with fail
      refine (CR.out _ V1.out V2.out).mono ?_
      rintro e w3 ⟨v3,rfl,⟨vn,vd,rfl,hn,hd⟩,hb3⟩
      have P3:=Lib.hid (PK.out _ _ P2.out hb3)
      obtain ⟨a5,n5,c5,rfl,-⟩:=hn.shape (by decide)
      obtain ⟨a6,n6,c6,rfl,-⟩:=hd.shape (by decide)
      obtain ⟨c,hc⟩:∃ c,c=qneg q:=⟨_,rfl⟩
      rw [← hc]
      obtain ⟨PB,p0,KK,-,GG⟩:=boxP 136 hc hn hd
      have PB0:=Lib.hid p0
      have P4:=Lib.hid (PK.out _ _ P3.out (below_alloc w3 (.cells #[.bool c,.slice a5 n5 c5,.slice a6 n6 c6] 136)))
      obtain ⟨⟨k0,k1,k2,-,-⟩,-⟩:=GG.out _ p0
      have CT:=Lib.hid (text9_any (v:=.agg #[.bool c,.slice a5 n5 c5,.slice a6 n6 c6]) ⟨_,_,by rw [hc],(GG.out _ p0).1.isNum,(GG.out _ p0).1.isDen⟩ BD.out (Nat.le_trans hk.out (by decide)))
      obtain ⟨T,hT⟩:∃ T:ByteArray,T=⟨(ratS q).toArray⟩:=⟨_,rfl⟩
      rw [show str (ratS q)=.string T from by rw [hT]] at CT
      have HC:=Lib.hid hc
      by_cases hrl:ratS q=l
      ·have hts:(T.toList == s.toList)=true:=by
        rw [ByteArray.toList_eq,ByteArray.toList_eq,HSL.out,hT,beq_iff_eq]; simpa using hrl
       have HPS:=Lib.hid (HQS.out.1 hrl)
       clear hrl hT hn hd hb3 p0 hc
       go_wp2_with fail
       refine CT.out.mono ?_
       rintro e w5 ⟨rfl,hb5⟩
       have PB5:=Lib.hid (KK.out _ _ PB0.out hb5)
       have P5:=Lib.hid (PK.out _ _ P4.out hb5)
       clear hb5 k0 k1 k2
       obtain ⟨⟨k0,k1,k2,hn5,hd5⟩,-⟩:=GG.out _ PB5.out
       have HN5:=Lib.hid hn5
       have HD5:=Lib.hid hd5
       have HW:=Lib.hid (PG.out _ P5.out)
       obtain ⟨r0,r1,r2,f0,f1,f2⟩:=HW.out.1
       clear hn5 hd5
       go_wp2
       refine bodyPost_ret (by simp [results,Tryz.results206,go_sem,r0,r1,r2]; try rfl) rfl ?_
       rw [HR.out,HPS.out]
       exact ⟨_,rfl,⟨_,_,by rw [HC.out],HW.out.1.set3 HN5.out _ _ _,HW.out.1.set3 HD5.out _ _ _⟩,below_set3 HW.out.2⟩
      ·have hts:(T.toList == s.toList)=false:=by
        rw [ByteArray.toList_eq,ByteArray.toList_eq,HSL.out,hT,beq_eq_false_iff_ne]; simpa using hrl
       have HPN:=Lib.hid (HQS.out.2 hrl)
       clear hrl hT hn hd hb3 p0 hc
       go_wp2_with fail
       refine CT.out.mono ?_
       rintro e w5 ⟨rfl,hb5⟩
       have P5:=Lib.hid (PK.out _ _ P4.out hb5)
       clear hb5 k0 k1 k2
       have HW:=Lib.hid (PG.out _ P5.out)
       obtain ⟨r0,r1,r2,f0,f1,f2⟩:=HW.out.1
       have HBW:=Lib.hid HW.out.2
       go_wp2
       refine bodyPost_ret (by simp [results,Tryz.results206,go_sem,r0,r1,r2]; try rfl) rfl ?_
       rw [HR.out,HPN.out]
       first | exact ⟨rfl,HBW.out⟩ | exact ⟨rfl,below_set3 HBW.out⟩
set_option maxHeartbeats 16000000 in
set_option maxRecDepth 100000 in
theorem parse9_C (s:ByteArray) (w:World) (hs:s.size≤10000) (hp:0<s.size) (h0:s[0]=45) :
  Calls Tryz.prog 206 #[.string s] w (RetP9 (parseQ s.data.toList) w):=by
 have hd:decide ((10000:Int)<(s.size:Int))=false:=by rw [decide_eq_false_iff_not]; omega
 obtain ⟨l,hl⟩:∃ l,l=s.data.toList:=⟨_,rfl⟩
 have hll:l.length≤10000:=by rw [hl,lenB]; exact hs
 obtain ⟨R,hR⟩:∃ R:Ending→World→Prop,R=RetP9 (parseQ l) w:=⟨_,rfl⟩
 rw [← hl,← hR]
 have HR:=Lib.hid hR
 have HSL:Hid (s.data.toList=l):=hl.symm
 have hlen:=prC_len1 l
 have hls:l=45 :: s.data.toList.drop 1:=by
  rw [hl]
  conv => lhs; rw [← List.drop_zero (l:=s.data.toList),List.drop_eq_getElem_cons (by rw [lenB]; exact hp)]
  congr 1
 have htr:=trim45_pos (s.data.toList.drop 1)
 rw [← hls] at htr
 obtain ⟨E,hE⟩:∃ E,E=s.extract 1 s.size:=⟨_,rfl⟩
 have HE:=Lib.hid hE
 have hrl:Hid (E.data.toList=Lib.trimPrefix l [45]):=by show _=_; rw [htr.1,hE,extract_tail]
 have hneg:Hid (prN l=true):=htr.2
 have hc0:((s[0].toNat:Int) == 45)=true:=by rw [h0]; rfl
 have hrsz:E.size≤10000:=by rw [hE,ByteArray.size_extract]; omega
 clear h0 htr hls hE
 have hsp:=parse9_spec l
 rw [hneg.out] at hsp
 obtain ⟨oA,hA⟩:∃ oA,oA=parseD (prC l).1:=⟨_,rfl⟩
 obtain ⟨oB,hB⟩:∃ oB,oB=parseD (prD l):=⟨_,rfl⟩
 rw [← hA,← hB] at hsp
 have HS:Hid ((oA=none→parseQ l=none)∧(oB=none→parseQ l=none)∧(∀ A B,oA=some A→oB=some B→B=0→parseQ l=none)∧(∀ A B,oA=some A→oB=some B→B ≠ 0→(ratS (mkRat (sgn true A) B)=l→parseQ l=some (mkRat (sgn true A) B))∧(ratS (mkRat (sgn true A) B) ≠ l→parseQ l=none))):=by
  refine ⟨fun h => ?_,fun h => ?_,fun A B h1 h2 h3 => ?_,fun A B h1 h2 h3 => ⟨fun h4 => ?_,fun h4 => ?_⟩⟩
  ·rw [hsp,h]
  ·rw [hsp,h]; cases oA <;> simp
  ·rw [hsp,h1,h2]; simp only; rw [if_pos h3]
  ·rw [hsp,h1,h2]; simp only; rw [if_neg h3,if_pos h4]
  ·rw [hsp,h1,h2]; simp only; rw [if_neg h3,if_neg h4]
 obtain ⟨k,hk,HL⟩:∃ k,Hid (k≤900000)∧Hid ((∀ A,oA=some A→A<2 ^ k)∧(∀ B,oB=some B→B<2 ^ k)):=by
  obtain ⟨K,hK⟩:∃ K:Nat,K=10000:=⟨_,rfl⟩
  exact ⟨4 * K,by show _≤_; omega,fun A h => parseD_lt (h ▸ hA).symm (by omega),fun B h => parseD_lt (h ▸ hB).symm (by have:=prD_len hll; omega)⟩
 have NA:Hid (∀ w1 (S:ByteArray),S.data.toList=(prC l).1→Calls Tryz.prog 203 #[.string S] w1 (RetNum9 oA w1)):=fun w1 S h => by
  rw [hA,← h]; exact number9_any w1 S (by rw [← lenB,h]; omega)
 have NB:Hid (∀ w1 (S:ByteArray),S.data.toList=prD l→Calls Tryz.prog 203 #[.string S] w1 (RetNum9 oB w1)):=fun w1 S h => by
  rw [hB,← h]; exact number9_any w1 S (by rw [← lenB,h]; omega)
 obtain ⟨P,p0,PK,PG⟩:=resP w
 have P0:=Lib.hid p0
 have hrs:E.size≤10000:=hrsz
 clear hl hll hR hlen hsp hA hB p0 hrsz
 go_enter Tryz.func206,Tryz.ntmps206
 go_wp2
 rw [← HE.out]
 go_loopw [6,7,8] (fun nv dv iv wr => ∃ i:Nat,i≤E.size∧iv=.int .i64 (i:Nat)∧nv=.string E∧dv=.string ⟨#[49]⟩∧Hid ((47:UInt8) ∉ E.data.toList.take i)∧Hid (P wr)) (fun _ _ iv _ => E.size - (intOf iv).toNat)
 case atStart => exact ⟨0,Nat.zero_le _,rfl,rfl,rfl,by show ¬ _; simp,P0.out⟩
 case round =>
  obtain ⟨i,hi,rfl,rfl,rfl,hno,hp⟩:=hrel
  by_cases hlt:i<E.size
  ·by_cases h47:E[i]=47
   ·have hc:((E[i].toNat:Int) == 47)=true:=by rw [h47]; rfl
    have hcut:=Lib.hid (cut_at hlt h47 hno.out)
    have N1:=Lib.hid (fun w1 => NA.out w1 (E.extract 0 i) (by rw [extract_pre,prC,← hrl.out,hcut.out]))
    have N2:=Lib.hid (fun w1 => NB.out w1 (E.extract (i+1) E.size) (by rw [extract_post,prD,prC,← hrl.out,hcut.out]; rfl))
    have PC:=Lib.hid (PK.out _ _ hp.out (below_drewN' _ 1))
    have b1:(0:Int)≤(i:Int):=by omega
    have b2:(i:Int)≤(E.size:Int):=by omega
    have b3:(0:Int)≤(i:Int)+1:=by omega
    have b4:(i:Int)+1≤(E.size:Int):=by omega
    clear h47 hno hcut
    go_wp2
    go_quiet (fail)
    replace PC:=Lib.hid (PK.out _ _ hp.out (below_drewN' _ nq))
    go_wp2_with fail
    refine (N1.out _).mono ?_
    cases oA with
    | none =>
     rintro e w1 ⟨rfl,hb1⟩
     have P1:=Lib.hid (PK.out _ _ PC.out hb1)
     have HPN:=Lib.hid (HS.out.1 rfl)
     clear hb1
     go_wp2_with fail
     refine (N2.out _).mono ?_
     cases oB with
     | none =>
      rintro e w2 ⟨rfl,hb2⟩
      have P2:=Lib.hid (PK.out _ _ P1.out hb2)
      clear hb2
      have HW:=Lib.hid (PG.out _ P2.out)
      obtain ⟨r0,r1,r2,f0,f1,f2⟩:=HW.out.1
      have HBW:=Lib.hid HW.out.2
      go_wp2
      refine bodyPost_ret (by simp [results,Tryz.results206,go_sem,r0,r1,r2]; try rfl) rfl ?_
      rw [HR.out,HPN.out]
      first | exact ⟨rfl,HBW.out⟩ | exact ⟨rfl,below_set3 HBW.out⟩
     | some B =>
      rintro e w2 ⟨v2,rfl,hv2,hb2⟩
      have P2:=Lib.hid (PK.out _ _ P1.out hb2)
      obtain ⟨a4,n4,c4,rfl,-⟩:=hv2.shape (by decide)
      clear hb2 hv2
      have HW:=Lib.hid (PG.out _ P2.out)
      obtain ⟨r0,r1,r2,f0,f1,f2⟩:=HW.out.1
      have HBW:=Lib.hid HW.out.2
      go_wp2
      refine bodyPost_ret (by simp [results,Tryz.results206,go_sem,r0,r1,r2]; try rfl) rfl ?_
      rw [HR.out,HPN.out]
      first | exact ⟨rfl,HBW.out⟩ | exact ⟨rfl,below_set3 HBW.out⟩
    | some A =>
     rintro e w1 ⟨v1,rfl,hv1,hb1⟩
     have P1:=Lib.hid (PK.out _ _ PC.out hb1)
     have V1:=Lib.hid hv1
     obtain ⟨a3,n3,c3,rfl,-⟩:=hv1.shape (by decide)
     clear hb1 hv1
     go_wp2_with fail
     refine (N2.out _).mono ?_
     cases oB with
     | none =>
      rintro e w2 ⟨rfl,hb2⟩
      have P2:=Lib.hid (PK.out _ _ P1.out hb2)
      have HPN:=Lib.hid (HS.out.2.1 rfl)
      clear hb2
      have HW:=Lib.hid (PG.out _ P2.out)
      obtain ⟨r0,r1,r2,f0,f1,f2⟩:=HW.out.1
      have HBW:=Lib.hid HW.out.2
      go_wp2
      refine bodyPost_ret (by simp [results,Tryz.results206,go_sem,r0,r1,r2]; try rfl) rfl ?_
      rw [HR.out,HPN.out]
      first | exact ⟨rfl,HBW.out⟩ | exact ⟨rfl,below_set3 HBW.out⟩
     | some B =>
      rintro e w2 ⟨v2,rfl,hv2,hb2⟩
      have P2:=Lib.hid (PK.out _ _ P1.out hb2)
      have V1:=Lib.hid (V1.out.later hb2)
      have V2:=Lib.hid hv2
      obtain ⟨a4,n4,c4,rfl,hz4⟩:=hv2.shape (by decide)
      clear hb2 hv2
      by_cases h4:n4=0
      ·subst h4
       have HPN:=Lib.hid (HS.out.2.2.1 A B rfl rfl (hz4.1 rfl))
       clear hz4
       have HW:=Lib.hid (PG.out _ P2.out)
       obtain ⟨r0,r1,r2,f0,f1,f2⟩:=HW.out.1
       have HBW:=Lib.hid HW.out.2
       go_wp2
       refine bodyPost_ret (by simp [results,Tryz.results206,go_sem,r0,r1,r2]; try rfl) rfl ?_
       rw [HR.out,HPN.out]
       first | exact ⟨rfl,HBW.out⟩ | exact ⟨rfl,below_set3 HBW.out⟩
      ·have hn4:((n4:Int) == 0)=false:=by rw [beq_eq_false_iff_ne]; omega
       have HB0:Hid (B ≠ 0):=fun e => h4 (hz4.2 e)
       have HQS:=Lib.hid (HS.out.2.2.2 A B rfl rfl HB0.out)
       have HLA:=Lib.hid (HL.out.1 A rfl)
       have HLB:=Lib.hid (HL.out.2 B rfl)
       obtain ⟨q,hq⟩:∃ q,q=mkRat (sgn true A) B:=⟨_,rfl⟩
       have CR:Hid (∀ w1,IsN B9 w1 (.slice a3 n3 c3) A→IsN B9 w1 (.slice a4 n4 c4) B→Calls Tryz.prog 224 #[.bool true,.slice a3 n3 c3,.slice a4 n4 c4] w1 (RetQ9 q w1)):=fun w1 h1 h2 => hq ▸ red9_any (k:=k) h1 h2 HLA.out HLB.out (Nat.le_trans hk.out (by decide)) HB0.out
       have BD:Hid (Bd k q):=hq ▸ Bd.made true HLA.out HLB.out HB0.out
       rw [← hq] at HQS
       clear hz4 h4 hq
       go_wp2_with fail
       refine (CR.out _ V1.out V2.out).mono ?_
       rintro e w3 ⟨v3,rfl,⟨vn,vd,rfl,hn,hd⟩,hb3⟩
       have P3:=Lib.hid (PK.out _ _ P2.out hb3)
       obtain ⟨a5,n5,c5,rfl,-⟩:=hn.shape (by decide)
       obtain ⟨a6,n6,c6,rfl,-⟩:=hd.shape (by decide)
       obtain ⟨c,hc⟩:∃ c,c=qneg q:=⟨_,rfl⟩
       rw [← hc]
       obtain ⟨PB,p0,KK,-,GG⟩:=boxP 136 hc hn hd
       have PB0:=Lib.hid p0
       have P4:=Lib.hid (PK.out _ _ P3.out (below_alloc w3 (.cells #[.bool c,.slice a5 n5 c5,.slice a6 n6 c6] 136)))
       obtain ⟨⟨k0,k1,k2,-,-⟩,-⟩:=GG.out _ p0
       have CT:=Lib.hid (text9_any (v:=.agg #[.bool c,.slice a5 n5 c5,.slice a6 n6 c6]) ⟨_,_,by rw [hc],(GG.out _ p0).1.isNum,(GG.out _ p0).1.isDen⟩ BD.out (Nat.le_trans hk.out (by decide)))
       obtain ⟨T,hT⟩:∃ T:ByteArray,T=⟨(ratS q).toArray⟩:=⟨_,rfl⟩
       rw [show str (ratS q)=.string T from by rw [hT]] at CT
       have HC:=Lib.hid hc
       by_cases hrl:ratS q=l
       ·have hts:(T.toList == s.toList)=true:=by
         rw [ByteArray.toList_eq,ByteArray.toList_eq,HSL.out,hT,beq_iff_eq]; simpa using hrl
        have HPS:=Lib.hid (HQS.out.1 hrl)
        clear hrl hT hn hd hb3 p0 hc
        go_wp2_with fail
        refine CT.out.mono ?_
        rintro e w5 ⟨rfl,hb5⟩
        have PB5:=Lib.hid (KK.out _ _ PB0.out hb5)
        have P5:=Lib.hid (PK.out _ _ P4.out hb5)
        clear hb5 k0 k1 k2
        obtain ⟨⟨k0,k1,k2,hn5,hd5⟩,-⟩:=GG.out _ PB5.out
        have HN5:=Lib.hid hn5
        have HD5:=Lib.hid hd5
        have HW:=Lib.hid (PG.out _ P5.out)
        obtain ⟨r0,r1,r2,f0,f1,f2⟩:=HW.out.1
        clear hn5 hd5
        go_wp2
        refine bodyPost_ret (by simp [results,Tryz.results206,go_sem,r0,r1,r2]; try rfl) rfl ?_
        rw [HR.out,HPS.out]
        exact ⟨_,rfl,⟨_,_,by rw [HC.out],HW.out.1.set3 HN5.out _ _ _,HW.out.1.set3 HD5.out _ _ _⟩,below_set3 HW.out.2⟩
       ·have hts:(T.toList == s.toList)=false:=by
         rw [ByteArray.toList_eq,ByteArray.toList_eq,HSL.out,hT,beq_eq_false_iff_ne]; simpa using hrl
        have HPN:=Lib.hid (HQS.out.2 hrl)
        clear hrl hT hn hd hb3 p0 hc
        go_wp2_with fail
        refine CT.out.mono ?_
        rintro e w5 ⟨rfl,hb5⟩
        have P5:=Lib.hid (PK.out _ _ P4.out hb5)
        clear hb5 k0 k1 k2
        have HW:=Lib.hid (PG.out _ P5.out)
        obtain ⟨r0,r1,r2,f0,f1,f2⟩:=HW.out.1
        have HBW:=Lib.hid HW.out.2
        go_wp2
        refine bodyPost_ret (by simp [results,Tryz.results206,go_sem,r0,r1,r2]; try rfl) rfl ?_
        rw [HR.out,HPN.out]
        first | exact ⟨rfl,HBW.out⟩ | exact ⟨rfl,below_set3 HBW.out⟩
   ·have hc:((E[i].toNat:Int) == 47)=false:=by
     rw [beq_eq_false_iff_ne]; intro e; exact h47 (UInt8.toNat_inj.1 (by rw [show (47:UInt8).toNat=47 from rfl]; omega))
    have HNO:Hid ((47:UInt8) ∉ E.data.toList.take (i+1)):=by
     show ¬ _
     rw [take_snocB _ i hlt,List.mem_append]
     rintro (h | h)
     ·exact hno.out h
     ·simp at h; exact h47 h.symm
    clear h47
    go_wp2
    exact ⟨⟨i+1,by omega,by go_num,rfl,rfl,HNO.out,hp.out⟩,by show _<_; simp [intOf]; omega⟩
  ·obtain rfl:i=E.size:=by omega
   have hcut:Hid (Lib.cut E.data.toList [47]=(E.data.toList,[],false)):=by
    have h1:=hno.out
    rw [← lenB,List.take_length] at h1
    exact cut_none h1
   have N1:=Lib.hid (fun w1 => NA.out w1 E (by rw [prC,← hrl.out,hcut.out]))
   have N2:=Lib.hid (fun w1 => NB.out w1 ⟨#[49]⟩ (by rw [prD,prC,← hrl.out,hcut.out]; rfl))
   have PC:=hp
   clear hno hcut
   go_wp2_with fail
   refine (N1.out _).mono ?_
   cases oA with
   | none =>
    rintro e w1 ⟨rfl,hb1⟩
    have P1:=Lib.hid (PK.out _ _ PC.out hb1)
    have HPN:=Lib.hid (HS.out.1 rfl)
    clear hb1
    go_wp2_with fail
    refine (N2.out _).mono ?_
    cases oB with
    | none =>
     rintro e w2 ⟨rfl,hb2⟩
     have P2:=Lib.hid (PK.out _ _ P1.out hb2)
     clear hb2
     have HW:=Lib.hid (PG.out _ P2.out)
     obtain ⟨r0,r1,r2,f0,f1,f2⟩:=HW.out.1
     have HBW:=Lib.hid HW.out.2
     go_wp2
     refine bodyPost_ret (by simp [results,Tryz.results206,go_sem,r0,r1,r2]; try rfl) rfl ?_
     rw [HR.out,HPN.out]
     first | exact ⟨rfl,HBW.out⟩ | exact ⟨rfl,below_set3 HBW.out⟩
    | some B =>
     rintro e w2 ⟨v2,rfl,hv2,hb2⟩
     have P2:=Lib.hid (PK.out _ _ P1.out hb2)
     obtain ⟨a4,n4,c4,rfl,-⟩:=hv2.shape (by decide)
     clear hb2 hv2
     have HW:=Lib.hid (PG.out _ P2.out)
     obtain ⟨r0,r1,r2,f0,f1,f2⟩:=HW.out.1
     have HBW:=Lib.hid HW.out.2
     go_wp2
     refine bodyPost_ret (by simp [results,Tryz.results206,go_sem,r0,r1,r2]; try rfl) rfl ?_
     rw [HR.out,HPN.out]
     first | exact ⟨rfl,HBW.out⟩ | exact ⟨rfl,below_set3 HBW.out⟩
   | some A =>
    rintro e w1 ⟨v1,rfl,hv1,hb1⟩
    have P1:=Lib.hid (PK.out _ _ PC.out hb1)
    have V1:=Lib.hid hv1
    obtain ⟨a3,n3,c3,rfl,-⟩:=hv1.shape (by decide)
    clear hb1 hv1
    go_wp2_with fail
    refine (N2.out _).mono ?_
    cases oB with
    | none =>
     rintro e w2 ⟨rfl,hb2⟩
     have P2:=Lib.hid (PK.out _ _ P1.out hb2)
     have HPN:=Lib.hid (HS.out.2.1 rfl)
     clear hb2
     have HW:=Lib.hid (PG.out _ P2.out)
     obtain ⟨r0,r1,r2,f0,f1,f2⟩:=HW.out.1
     have HBW:=Lib.hid HW.out.2
     go_wp2
     refine bodyPost_ret (by simp [results,Tryz.results206,go_sem,r0,r1,r2]; try rfl) rfl ?_
     rw [HR.out,HPN.out]
     first | exact ⟨rfl,HBW.out⟩ | exact ⟨rfl,below_set3 HBW.out⟩
    | some B =>
     rintro e w2 ⟨v2,rfl,hv2,hb2⟩
     have P2:=Lib.hid (PK.out _ _ P1.out hb2)
     have V1:=Lib.hid (V1.out.later hb2)
     have V2:=Lib.hid hv2
     obtain ⟨a4,n4,c4,rfl,hz4⟩:=hv2.shape (by decide)
     clear hb2 hv2
     by_cases h4:n4=0
     ·subst h4
      have HPN:=Lib.hid (HS.out.2.2.1 A B rfl rfl (hz4.1 rfl))
      clear hz4
      have HW:=Lib.hid (PG.out _ P2.out)
      obtain ⟨r0,r1,r2,f0,f1,f2⟩:=HW.out.1
      have HBW:=Lib.hid HW.out.2
      go_wp2
      refine bodyPost_ret (by simp [results,Tryz.results206,go_sem,r0,r1,r2]; try rfl) rfl ?_
      rw [HR.out,HPN.out]
      first | exact ⟨rfl,HBW.out⟩ | exact ⟨rfl,below_set3 HBW.out⟩
     ·have hn4:((n4:Int) == 0)=false:=by rw [beq_eq_false_iff_ne]; omega
      have HB0:Hid (B ≠ 0):=fun e => h4 (hz4.2 e)
      have HQS:=Lib.hid (HS.out.2.2.2 A B rfl rfl HB0.out)
      have HLA:=Lib.hid (HL.out.1 A rfl)
      have HLB:=Lib.hid (HL.out.2 B rfl)
      obtain ⟨q,hq⟩:∃ q,q=mkRat (sgn true A) B:=⟨_,rfl⟩
      have CR:Hid (∀ w1,IsN B9 w1 (.slice a3 n3 c3) A→IsN B9 w1 (.slice a4 n4 c4) B→Calls Tryz.prog 224 #[.bool true,.slice a3 n3 c3,.slice a4 n4 c4] w1 (RetQ9 q w1)):=fun w1 h1 h2 => hq ▸ red9_any (k:=k) h1 h2 HLA.out HLB.out (Nat.le_trans hk.out (by decide)) HB0.out
      have BD:Hid (Bd k q):=hq ▸ Bd.made true HLA.out HLB.out HB0.out
      rw [← hq] at HQS
      clear hz4 h4 hq
      go_wp2_with fail
      refine (CR.out _ V1.out V2.out).mono ?_
      rintro e w3 ⟨v3,rfl,⟨vn,vd,rfl,hn,hd⟩,hb3⟩
      have P3:=Lib.hid (PK.out _ _ P2.out hb3)
      obtain ⟨a5,n5,c5,rfl,-⟩:=hn.shape (by decide)
      obtain ⟨a6,n6,c6,rfl,-⟩:=hd.shape (by decide)
      obtain ⟨c,hc⟩:∃ c,c=qneg q:=⟨_,rfl⟩
      rw [← hc]
      obtain ⟨PB,p0,KK,-,GG⟩:=boxP 136 hc hn hd
      have PB0:=Lib.hid p0
      have P4:=Lib.hid (PK.out _ _ P3.out (below_alloc w3 (.cells #[.bool c,.slice a5 n5 c5,.slice a6 n6 c6] 136)))
      obtain ⟨⟨k0,k1,k2,-,-⟩,-⟩:=GG.out _ p0
      have CT:=Lib.hid (text9_any (v:=.agg #[.bool c,.slice a5 n5 c5,.slice a6 n6 c6]) ⟨_,_,by rw [hc],(GG.out _ p0).1.isNum,(GG.out _ p0).1.isDen⟩ BD.out (Nat.le_trans hk.out (by decide)))
      obtain ⟨T,hT⟩:∃ T:ByteArray,T=⟨(ratS q).toArray⟩:=⟨_,rfl⟩
      rw [show str (ratS q)=.string T from by rw [hT]] at CT
      have HC:=Lib.hid hc
      by_cases hrl:ratS q=l
      ·have hts:(T.toList == s.toList)=true:=by
        rw [ByteArray.toList_eq,ByteArray.toList_eq,HSL.out,hT,beq_iff_eq]; simpa using hrl
       have HPS:=Lib.hid (HQS.out.1 hrl)
       clear hrl hT hn hd hb3 p0 hc
       go_wp2_with fail
       refine CT.out.mono ?_
       rintro e w5 ⟨rfl,hb5⟩
       have PB5:=Lib.hid (KK.out _ _ PB0.out hb5)
       have P5:=Lib.hid (PK.out _ _ P4.out hb5)
       clear hb5 k0 k1 k2
       obtain ⟨⟨k0,k1,k2,hn5,hd5⟩,-⟩:=GG.out _ PB5.out
       have HN5:=Lib.hid hn5
       have HD5:=Lib.hid hd5
       have HW:=Lib.hid (PG.out _ P5.out)
       obtain ⟨r0,r1,r2,f0,f1,f2⟩:=HW.out.1
       clear hn5 hd5
       go_wp2
       refine bodyPost_ret (by simp [results,Tryz.results206,go_sem,r0,r1,r2]; try rfl) rfl ?_
       rw [HR.out,HPS.out]
       exact ⟨_,rfl,⟨_,_,by rw [HC.out],HW.out.1.set3 HN5.out _ _ _,HW.out.1.set3 HD5.out _ _ _⟩,below_set3 HW.out.2⟩
      ·have hts:(T.toList == s.toList)=false:=by
        rw [ByteArray.toList_eq,ByteArray.toList_eq,HSL.out,hT,beq_eq_false_iff_ne]; simpa using hrl
       have HPN:=Lib.hid (HQS.out.2 hrl)
       clear hrl hT hn hd hb3 p0 hc
       go_wp2_with fail
       refine CT.out.mono ?_
       rintro e w5 ⟨rfl,hb5⟩
       have P5:=Lib.hid (PK.out _ _ P4.out hb5)
       clear hb5 k0 k1 k2
       have HW:=Lib.hid (PG.out _ P5.out)
       obtain ⟨r0,r1,r2,f0,f1,f2⟩:=HW.out.1
       have HBW:=Lib.hid HW.out.2
       go_wp2
       refine bodyPost_ret (by simp [results,Tryz.results206,go_sem,r0,r1,r2]; try rfl) rfl ?_
       rw [HR.out,HPN.out]
       first | exact ⟨rfl,HBW.out⟩ | exact ⟨rfl,below_set3 HBW.out⟩
theorem parse9_any (s:ByteArray) (w:World) (hs:s.size≤10000) :
  Calls Tryz.prog 206 #[.string s] w (RetP9 (parseQ s.data.toList) w):=by
 by_cases h0:s.data.toList=[]
 ·exact parse9_A s w hs h0
 ·have hp:0<s.size:=by rw [← lenB]; exact List.length_pos_iff.2 h0
  by_cases h1:s[0]=45
  ·exact parse9_C s w hs hp h1
  ·exact parse9_B s w hs hp h1
theorem rprint_bad (x:Va) (w:World) (hs:x.str.length≤9223372036854775807) (h:rightV x=false) :
  Calls Tryz.prog 84 #[x.v] w (RetV (.tuple #[str [],.int .i64 2]) w):=by
 have C:=fun w1 => rcheck_any x w1 hs
 simp only [chk_bad h] at C
 have C:=Lib.hid C
 rename_i C'
 clear C' h hs
 go_enter Tryz.func84,Tryz.ntmps84
 go_wp2_with fail
 refine (C.out _).mono ?_
 rintro e w1 ⟨rfl,hb⟩
 obtain ⟨-,HB⟩:=BoxAt.past x hb
 clear C hb
 go_wp2
 go_ret2
 exact ⟨rfl,HB⟩
theorem rprint_0 (r:Int) (h1:1≤r) (h2:r≤255) (w:World) :
  Calls Tryz.prog 84 #[(missV r).v] w (RetV (.tuple #[str (63 :: dec r.natAbs),.int .i64 0]) w):=by
 have C:=fun w1 => rcheck_any (missV r) w1 (by simp)
 simp only [chk_good (right_miss h1 h2)] at C
 have C:=Lib.hid C
 rename_i C'
 clear C'
 have C2:=Lib.hid (fun w1 => size9_any r w1 (by omega) (by omega))
 have SM:Sm r.natAbs:=Sm.i64 (n:=r) (by omega) (by omega)
 have C3:=Lib.hid (fun (w1:World) (v:Value) (hv:IsN B9 w1 v r.natAbs) => decimal_any hv SM)
 have L1:(dec r.natAbs).length≤3:=dec3 (by omega)
 clear h1 h2 SM
 go_enter Tryz.func84,Tryz.ntmps84
 go_wp2_with fail
 refine (C.out _).mono ?_
 rintro e w1 ⟨rfl,hb⟩
 obtain ⟨⟨c1,c2,c3,c4⟩,HB⟩:=BoxAt.past (missV r) hb
 clear C hb
 go_wp2_with fail
 refine (C2.out _).mono ?_
 rintro e w2 ⟨v,rfl,hv,hb2⟩
 have HB2:=below_keep HB hb2
 obtain ⟨a1,n1,p1,hs1,-⟩:=hv.shape (by decide)
 subst hs1
 have C4:=Lib.hid (C3.out _ _ hv)
 clear C2 C3 hv
 go_wp2_with fail
 refine C4.out.mono ?_
 rintro e w3 ⟨rfl,hb3⟩
 have HB3:=below_keep HB2 hb3
 clear C4
 go_wp2
 go_ret2
 exact ⟨ret_str (by simp),HB3⟩
theorem rprint_1 (b:Bool) (w:World) :
  Calls Tryz.prog 84 #[(truthV b).v] w (RetV (.tuple #[str (printV (truthV b)),.int .i64 0]) w):=by
 have C:=fun w1 => rcheck_any (truthV b) w1 (by simp)
 simp only [chk_good (right_bool b)] at C
 have C:=Lib.hid C
 rename_i C'
 clear C'
 cases b
 ·go_enter Tryz.func84,Tryz.ntmps84
  go_wp2_with fail
  refine (C.out _).mono ?_
  rintro e w1 ⟨rfl,hb⟩
  obtain ⟨⟨c1,c2,c3,c4⟩,HB⟩:=BoxAt.past ⟨1,0,0,[]⟩ hb
  clear C hb
  go_wp2
  go_ret2
  exact ⟨rfl,HB⟩
 ·go_enter Tryz.func84,Tryz.ntmps84
  go_wp2_with fail
  refine (C.out _).mono ?_
  rintro e w1 ⟨rfl,hb⟩
  obtain ⟨⟨c1,c2,c3,c4⟩,HB⟩:=BoxAt.past ⟨1,1,0,[]⟩ hb
  clear C hb
  go_wp2
  go_ret2
  exact ⟨rfl,HB⟩
set_option maxHeartbeats 1600000 in
theorem rprint_2core (q:Rat) (N E:Int) (w:World) (C:∀ w1,Calls Tryz.prog 132 #[(Va.mk 2 N E []).v] w1 (RetV (.int .i64 0) w1))
  (C2:∀ w1,Calls Tryz.prog 133 #[(Va.mk 2 N E []).v] w1 fun e w' => ∃ v,e=.returned (.tuple #[v,.bool true])∧Q9 w' v q∧Below w1.heap.size w1 w')
  (C3:∀ w1 v,Q9 w1 v q→Calls Tryz.prog 82 #[v] w1 (RetV (str (ratS q)) w1)) :
  Calls Tryz.prog 84 #[(Va.mk 2 N E []).v] w (RetV (.tuple #[str (ratS q),.int .i64 0]) w):=by
 have C:=Lib.hid C
 have C2:=Lib.hid C2
 have C3:=Lib.hid C3
 rename_i C' C2' C3'
 clear C' C2' C3'
 go_enter Tryz.func84,Tryz.ntmps84
 go_wp2_with fail
 refine (C.out _).mono ?_
 rintro e w1 ⟨rfl,hb⟩
 obtain ⟨⟨c1,c2,c3,c4⟩,HB⟩:=BoxAt.past ⟨2,N,E,[]⟩ hb
 clear C hb
 have HB:=Lib.hid HB
 rename_i HB'
 clear HB'
 go_wp2_with fail
 refine (C2.out _).mono ?_
 rintro e w2 ⟨v,rfl,⟨vn,vd,rfl,hn,hd⟩,hb2⟩
 obtain ⟨a1,n1,p1,rfl,-⟩:=hn.shape (by decide)
 obtain ⟨a2,n2,p2,rfl,-⟩:=hd.shape (by decide)
 obtain ⟨b,hb1⟩:∃ b,b=qneg q:=⟨_,rfl⟩
 rw [← hb1]
 have C4:=Lib.hid (C3.out (w2.alloc (.cells #[.bool b,.slice a1 n1 p1,.slice a2 n2 p2] 136)) (.agg #[.bool b,.slice a1 n1 p1,.slice a2 n2 p2]) ⟨_,_,by rw [hb1],hn.later (below_alloc _ _),hd.later (below_alloc _ _)⟩)
 have hB2:=below_keep HB.out hb2
 have HB2:=Lib.hid (hB2.alloc hB2.size (.cells #[.bool b,.slice a1 n1 p1,.slice a2 n2 p2] 136))
 clear C2 C3 hn hd hb2 hb1 hB2
 go_wp2_with fail
 refine C4.out.mono ?_
 rintro e w3 ⟨rfl,hb3⟩
 have HB3:=Lib.hid (below_keep HB2.out hb3)
 clear C4 hb3
 go_wp2
 go_ret2
 exact ⟨rfl,HB3.out⟩
theorem rprint_2 (q:Rat) (hq:FitQ q) (w:World) :
  Calls Tryz.prog 84 #[(ratV q).v] w (RetV (.tuple #[str (ratS q),.int .i64 0]) w) :=
 rprint_2core q q.num q.den w (fun w1 => by have:=rcheck_any (ratV q) w1 (by simp); rwa [chk_good (right_rat hq)] at this) (rnumber_good q hq) (fun w1 v hv => text9_any hv hq.bd (by omega))
theorem dbl_take {s:List UInt8} {k:Nat} (h:k<s.length):dbl (s.take (k+1))=dbl (s.take k) ++ (if s[k]=39 then [39,39] else [s[k]]):=by
 have e:∀ (a:List UInt8) (c:UInt8),dbl (a ++ [c])=dbl a ++ (if c=39 then [39,39] else [c]):=by
  intro a c
  induction a with
  | nil => show dbl [c]=_; simp only [dbl]; split <;> rfl
  | cons b t ih =>
   rw [List.cons_append,dbl,dbl,ih]
   split <;> simp
 rw [List.take_succ_eq_append_getElem h,e]
theorem ext_one {S:ByteArray} {s:List UInt8} {k:Nat} (hS:S.data.toList=s) (h:k<s.length):(S.extract k (k+1)).data.toList=[s[k]]:=by
 subst hS
 rw [ByteArray.data_extract,Array.toList_extract,List.extract_eq_take_drop,show k+1 - k=1 from by omega,List.take_one,List.head?_drop,List.getElem?_eq_getElem h]
 rfl
theorem get_str {S:ByteArray} {s:List UInt8} {k:Nat} (hS:S.data.toList=s) (h:k<s.length) (hi:k<S.size):S[k]=s[k]:=by
 subst hS; rfl
set_option maxHeartbeats 3200000 in
set_option maxRecDepth 100000 in
theorem rprint_3core (s:List UInt8) (S0:ByteArray) (hS0:S0.data.toList=s) (h1:s.length≤16) (w:World) (C:∀ w1,Calls Tryz.prog 132 #[.agg #[.int .i64 3,.int .i64 0,.int .i64 0,.string S0]] w1 (RetV (.int .i64 0) w1)) :
  Calls Tryz.prog 84 #[.agg #[.int .i64 3,.int .i64 0,.int .i64 0,.string S0]] w (RetV (.tuple #[str (39 :: dbl s ++ [39]),.int .i64 0]) w):=by
 have C:=Lib.hid C
 rename_i C'
 clear C'
 have hsz:S0.size=s.length:=by rw [← hS0,lenB]
 have HP:Hid (∀ w1,Below (w.alloc (.cells #[.int .i64 3,.int .i64 0,.int .i64 0,.string S0] 59)).heap.size (w.alloc (.cells #[.int .i64 3,.int .i64 0,.int .i64 0,.string S0] 59)) w1 →
   (w1.cell? ⟨w.heap.size,0,none⟩=some (.int .i64 3)∧w1.cell? ⟨w.heap.size,3,none⟩=some (.string S0)∧Below w.heap.size w w1)):=fun w1 hb => by
  have e:S0=⟨s.toArray⟩:=bytes_eq (by rw [hS0])
  rw [e] at hb
  obtain ⟨⟨c1,c2,c3,c4⟩,HB⟩:=BoxAt.past (textV s) hb
  rw [e]
  exact ⟨c1,c4,HB⟩
 have HS0:=Lib.hid hS0
 have HZ:=Lib.hid hsz
 have hz16:S0.size≤16:=by omega
 clear hS0 hsz
 go_enter Tryz.func84,Tryz.ntmps84
 go_wp2_with fail
 refine (C.out _).mono ?_
 rintro e w1 ⟨rfl,hb⟩
 obtain ⟨c1,c4,hB⟩:=HP.out _ hb
 have HB:=Lib.hid hB
 clear C hb hB HP
 go_wp2
 go_loop [6,7] (fun ov iv => ∃ (k:Nat) (S:ByteArray),k≤S0.size∧iv=.int .i64 (k:Nat)∧ov=.string S∧S.size≤40∧Hid (S.data.toList=39 :: dbl (s.take k))) (fun _ iv => S0.size - (intOf iv).toNat)
 case atStart => exact ⟨0,⟨#[39]⟩,Nat.zero_le _,rfl,rfl,by decide,by show _=_; simp [dbl]⟩
 case round =>
  obtain ⟨k,S,hk,rfl,rfl,hS,hl⟩:=hrel
  by_cases hlt:k<S0.size
  ·have hlt':k<s.length:=by rw [← HZ.out]; exact hlt
   have hd:=dbl_take hlt'
   have he:=ext_one HS0.out hlt'
   have hlen:=dbl_len (s.take (k+1))
   rw [List.length_take] at hlen
   by_cases e:s[k]=39
   ·have q1:∀ hi:k<S0.size,((S0[k].toNat:Int) == 39)=true:=fun hi => by rw [get_str HS0.out hlt',e]; rfl
    have HF:Hid ((S ++ ⟨#[39]⟩ ++ S0.extract k (k+1)).data.toList=39 :: dbl (s.take (k+1))):=by
     show _=_
     rw [ByteArray.data_append,ByteArray.data_append,Array.toList_append,Array.toList_append,he,hl.out,hd,if_pos e,e]
     simp
    have HL:Hid ((S ++ ⟨#[39]⟩ ++ S0.extract k (k+1)).size≤40):=by
     show _≤_
     rw [← lenB,HF.out,List.length_cons]; omega
    clear hlt' hd he hlen e
    go_wp2
    exact ⟨⟨k+1,_,by omega,rfl,rfl,HL.out,HF.out⟩,by show S0.size - (k+1)<S0.size - k; omega⟩
   ·have q1:∀ hi:k<S0.size,((S0[k].toNat:Int) == 39)=false:=fun hi => by
     rw [get_str HS0.out hlt',beq_eq_false_iff_ne]
     intro h
     exact e (UInt8.toNat_inj.1 (by show _=39; omega))
    have HF:Hid ((S ++ S0.extract k (k+1)).data.toList=39 :: dbl (s.take (k+1))):=by
     show _=_
     rw [ByteArray.data_append,Array.toList_append,he,hl.out,hd,if_neg e]
     simp
    have HL:Hid ((S ++ S0.extract k (k+1)).size≤40):=by
     show _≤_
     rw [← lenB,HF.out,List.length_cons]; omega
    clear hlt' hd he hlen e
    go_wp2
    exact ⟨⟨k+1,_,by omega,rfl,rfl,HL.out,HF.out⟩,by show S0.size - (k+1)<S0.size - k; omega⟩
  ·obtain rfl:k=S0.size:=by omega
   go_wp2
   go_ret2
   exact ⟨ret_str (by simp [hl.out,HZ.out]),HB.out⟩
theorem rprint_3 (s:List UInt8) (h1:s.length≤16) (h2:s.all okB=true) (w:World) :
  Calls Tryz.prog 84 #[(textV s).v] w (RetV (.tuple #[str (39 :: dbl s ++ [39]),.int .i64 0]) w) :=
 rprint_3core s ⟨s.toArray⟩ (by simp) h1 w (fun w1 => by have:=rcheck_any (textV s) w1 (by show s.length≤_; omega); rwa [chk_good (right_text h1 h2)] at this)
theorem rprint_any (x:Va) (w:World) (hs:x.str.length≤9223372036854775807) :
  Calls Tryz.prog 84 #[x.v] w (RetV (printE x) w):=by
 unfold printE
 by_cases hx:rightV x=true
 ·simp only [if_pos hx]
  rcases right_cases hx with ⟨r,h1,h2,rfl⟩ | ⟨b,rfl⟩ | ⟨q,hq,rfl⟩ | ⟨s,h1,h2,rfl⟩
  ·exact rprint_0 r h1 h2 w
  ·exact rprint_1 b w
  ·rw [print_rat]; exact rprint_2 q hq w
  ·exact rprint_3 s h1 h2 w
 ·simp only [if_neg hx]
  exact rprint_bad x w hs (by simpa using hx)
theorem lit_ne {s:ByteArray} {l:List UInt8} (h:s.data.toList ≠ l):(s.toList == l)=false:=by rw [ByteArray.toList_eq,beq_eq_false_iff_ne]; exact h
theorem head_at {s:ByteArray} {c:UInt8} {n:Int} (hc:(c.toNat:Int)=n) (h:s.data.toList.head? = some c):∀ hi:0<s.size,((s[0].toNat:Int) == n)=true:=fun hi => by
 cases hl:s.data.toList with
 | nil => rw [hl] at h; cases h
 | cons a t => rw [hl] at h; simp only [List.head?_cons,Option.some.injEq] at h; subst h; rw [byte0 hl hi,hc]; simp
theorem head_not {s:ByteArray} {c:UInt8} {n:Int} (hc:(c.toNat:Int)=n) (h:s.data.toList.head? ≠ some c):∀ hi:0<s.size,((s[0].toNat:Int) == n)=false:=fun hi => by
 cases hl:s.data.toList with
 | nil => have:=lenB s; rw [hl] at this; simp at this; omega
 | cons a t =>
  rw [hl] at h
  rw [byte0 hl hi,beq_eq_false_iff_ne,← hc]
  intro e
  apply h
  rw [List.head?_cons,UInt8.toNat_inj.1 (by omega:a.toNat=c.toNat)]
theorem guess_true (w:World):Calls Tryz.prog 176 #[.string ⟨#[116,114,117,101]⟩] w (RetV (truthV true).v w):=by
 have C:=Lib.hid (fun w1 => truth9_any true w1)
 have HR:=Lib.hid (ResV.made w 59)
 have HB:=Lib.hid (below_alloc w (.cells #[.int .i64 0,.int .i64 0,.int .i64 0,.string ⟨#[]⟩] 59))
 go_enter Tryz.func176,Tryz.ntmps176
 go_wp2_with fail
 refine (C.out _).mono ?_
 rintro e w1 ⟨rfl,hb⟩
 obtain ⟨⟨r0,r1,r2,r3⟩,f0,f1,f2,f3⟩:=HR.out.later hb (by simp)
 have HB1:=Lib.hid (below_keep HB.out hb)
 clear hb C
 go_wp2
 refine bodyPost_ret (by simp [results,Tryz.results176,go_sem,r0,r1,r2,r3]; try rfl) rfl ?_
 exact ⟨rfl,below_set4 HB1.out⟩
theorem guess_false (w:World):Calls Tryz.prog 176 #[.string ⟨#[102,97,108,115,101]⟩] w (RetV (truthV false).v w):=by
 have C:=Lib.hid (fun w1 => truth9_any false w1)
 have HR:=Lib.hid (ResV.made w 59)
 have HB:=Lib.hid (below_alloc w (.cells #[.int .i64 0,.int .i64 0,.int .i64 0,.string ⟨#[]⟩] 59))
 go_enter Tryz.func176,Tryz.ntmps176
 go_wp2_with fail
 refine (C.out _).mono ?_
 rintro e w1 ⟨rfl,hb⟩
 obtain ⟨⟨r0,r1,r2,r3⟩,f0,f1,f2,f3⟩:=HR.out.later hb (by simp)
 have HB1:=Lib.hid (below_keep HB.out hb)
 clear hb C
 go_wp2
 refine bodyPost_ret (by simp [results,Tryz.results176,go_sem,r0,r1,r2,r3]; try rfl) rfl ?_
 exact ⟨rfl,below_set4 HB1.out⟩
set_option maxHeartbeats 1600000 in
theorem guess_missN (s:ByteArray) (w:World) (t1:(s.toList == [116,114,117,101])=false) (t2:(s.toList == [102,97,108,115,101])=false) (l1:1<s.size) (l2:s.size<5) (h0:∀ hi:0<s.size,((s[0].toNat:Int) == 63)=true)
  (hp:parseD (s.data.toList.drop 1)=none) :
  Calls Tryz.prog 176 #[.string s] w (RetV zeroV.v w):=by
 have C:=fun w1 => number9_any w1 (s.extract 1 s.size) (by rw [ByteArray.size_extract]; omega)
 simp only [extract_tail,hp] at C
 have C:=Lib.hid C
 rename_i C'
 clear C' hp
 have HR:=Lib.hid (ResV.made w 59)
 have HB:=Lib.hid (below_alloc w (.cells #[.int .i64 0,.int .i64 0,.int .i64 0,.string ⟨#[]⟩] 59))
 go_enter Tryz.func176,Tryz.ntmps176
 go_wp2_with fail
 refine (C.out _).mono ?_
 rintro e w1 ⟨rfl,hb⟩
 obtain ⟨⟨r0,r1,r2,r3⟩,f0,f1,f2,f3⟩:=HR.out.later hb (by simp)
 have HB1:=Lib.hid (below_keep HB.out hb)
 clear hb C
 go_wp2
 refine bodyPost_ret (by simp [results,Tryz.results176,go_sem,r0,r1,r2,r3]; try rfl) rfl ?_
 exact ⟨rfl,below_set4 HB1.out⟩
set_option maxHeartbeats 1600000 in
theorem guess_missS (s:ByteArray) (n:Nat) (w:World) (t1:(s.toList == [116,114,117,101])=false) (t2:(s.toList == [102,97,108,115,101])=false) (l1:1<s.size) (l2:s.size<5) (h0:∀ hi:0<s.size,((s[0].toNat:Int) == 63)=true)
  (hp:parseD (s.data.toList.drop 1)=some n) :
  Calls Tryz.prog 176 #[.string s] w (RetV (missV n).v w):=by
 have C:=fun w1 => number9_any w1 (s.extract 1 s.size) (by rw [ByteArray.size_extract]; omega)
 simp only [extract_tail,hp] at C
 have C:=Lib.hid C
 rename_i C'
 have hn:n<1000000:=by
  have:=parseD_lt (K:=3) hp (by rw [List.length_drop,lenB]; omega)
  omega
 clear C' hp
 have D:Hid (∀ w1 v,IsN B9 w1 v n→Calls Tryz.prog 205 #[v,.int .i64 0] w1 fun e w' => e=.returned (.int .u64 (n:Nat))∧w1=w'):=fun w1 v hv => by
  obtain ⟨m,D,r1,s1⟩:=hv
  have l1:m≤2:=r1.len_le (k:=2) (by decide) (show n<1000000000 ^ 2 by omega)
  have hval:=short_val r1 l1
  have:=digit_any 0 s1 r1.dig (by omega) (by omega)
  rwa [show cutD D m 0=n from by omega] at this
 have E:=Lib.hid (fun w1 => missing9_any n w1)
 have HR:=Lib.hid (ResV.made w 59)
 have HB:=Lib.hid (below_alloc w (.cells #[.int .i64 0,.int .i64 0,.int .i64 0,.string ⟨#[]⟩] 59))
 go_enter Tryz.func176,Tryz.ntmps176
 go_wp2_with fail
 refine (C.out _).mono ?_
 rintro e w1 ⟨v1,rfl,hv1,hb⟩
 have HR1:=Lib.hid (HR.out.later hb (by simp))
 have HB1:=Lib.hid (below_keep HB.out hb)
 have D1:=Lib.hid (D.out _ _ hv1)
 obtain ⟨a1,n1,c1,rfl,-⟩:=hv1.shape (by decide)
 clear hb C hv1
 go_wp2_with fail
 refine D1.out.mono ?_
 rintro e w2 ⟨rfl,rfl⟩
 go_wp2_with fail
 refine (E.out _).mono ?_
 rintro e w3 ⟨rfl,hb⟩
 obtain ⟨⟨r0,r1,r2,r3⟩,f0,f1,f2,f3⟩:=HR1.out.later hb (World.block_lt_of_cell? _ _ HR1.out.box.kind)
 have HB2:=Lib.hid (below_keep HB1.out hb)
 clear hb D1 E
 go_wp2
 refine bodyPost_ret (by simp [results,Tryz.results176,go_sem,r0,r1,r2,r3]; try rfl) rfl ?_
 exact ⟨rfl,below_set4 HB2.out⟩
def W2 (s:ByteArray):Prop:=(decide ((1:Int)<(s.size:Int))=true∧decide ((s.size:Int)<5)=false) ∨ (decide ((1:Int)<(s.size:Int))=true∧decide ((s.size:Int)<5)=true∧∀ hi:0<s.size,((s[0].toNat:Int) == 63)=false)
theorem getD_get {s:ByteArray} {i:Nat} (h:i<s.size):s.data.toList.getD i 0=s[i]:=by
 rw [List.getD_eq_getElem?_getD,List.getElem?_eq_getElem (by rw [lenB]; exact h)]; rfl
set_option maxHeartbeats 3200000 in
set_option maxRecDepth 100000 in
theorem guess_text (s:ByteArray) (w:World) (t1:(s.toList == [116,114,117,101])=false) (t2:(s.toList == [102,97,108,115,101])=false) (hw:W2 s) (h0:∀ hi:0<s.size,((s[0].toNat:Int) == 39)=true) (l1:1<s.size) (hs:s.size≤20000) :
  Calls Tryz.prog 176 #[.string s] w (RetV (textV (gq s.data.toList 40 1 [])).v w):=by
 obtain ⟨R,hR⟩:∃ R,R=gq s.data.toList 40 1 []:=⟨_,rfl⟩
 rw [← hR]
 have HR0:=Lib.hid hR
 have HB:=Lib.hid (below_alloc w (.cells #[.int .i64 0,.int .i64 0,.int .i64 0,.string ⟨#[]⟩] 59))
 clear hR
 rcases hw with ⟨q1,q2⟩ | ⟨q1,q2,q3⟩
 all_goals
  go_enter Tryz.func176,Tryz.ntmps176
  go_wp2
  clear q1 q2
  try clear q3
  clear h0 t1 t2
  go_loop [5,6] (fun tv iv => ∃ (i f:Nat) (T:ByteArray),1≤i∧i≤42∧iv=.int .i64 (i:Nat)∧tv=.string T∧T.size≤42∧T.size≤i∧41≤f+i∧Hid (gq s.data.toList f i T.data.toList=R)) (fun _ iv => 50 - (intOf iv).toNat)
  case atStart => exact ⟨1,40,⟨#[]⟩,Nat.le_refl _,by decide,rfl,rfl,by decide,by decide,by decide,HR0.out.symm⟩
  case round =>
   obtain ⟨i,f,T,hi1,hi2,rfl,rfl,hT1,hT2,hf,hg⟩:=hrel
   by_cases hc:i<s.size - 1∧i<40
   ·obtain ⟨hc1,hc2⟩:=hc
    have hlt:i<s.size:=by omega
    obtain ⟨f,rfl⟩:∃ g,f=g+1:=⟨f - 1,by omega⟩
    have HG:Hid (gq s.data.toList f (if s[i]=39 then i+2 else i+1) (T.data.toList ++ [s[i]])=R):=by
     show _=_
     rw [← hg.out,gq_step f _ ⟨by rw [lenB]; exact hc1,hc2⟩,getD_get hlt]
    have hx:=ext_one (S:=s) rfl (show i<s.data.toList.length by rw [lenB]; exact hlt)
    have hx':(s.extract i (i+1)).data.toList=[s[i]]:=hx
    have HF:Hid ((T ++ s.extract i (i+1)).data.toList=T.data.toList ++ [s[i]]):=by
     show _=_
     rw [ByteArray.data_append,Array.toList_append,hx']
    have HL:Hid ((T ++ s.extract i (i+1)).size=T.size+1):=by
     show _=_
     rw [← lenB,HF.out,List.length_append,lenB]; rfl
    have h3:decide ((i:Int)<(s.size:Int) - 1)=true:=by rw [decide_eq_true_eq]; omega
    by_cases e:s[i]=39
    ·have e1:∀ hi:i<s.size,((s[i].toNat:Int) == 39)=true:=fun _ => by rw [e]; rfl
     have HG2:Hid (gq s.data.toList f (i+2) (T ++ s.extract i (i+1)).data.toList=R):=by
      show _=_
      rw [HF.out,← HG.out,if_pos e]
     clear hx hx' e
     go_wp2
     exact ⟨⟨i+2,f,_,by omega,by omega,rfl,rfl,by rw [HL.out]; omega,by rw [HL.out]; omega,by omega,HG2.out⟩,by show 50 - (i+2)<50 - i; omega⟩
    ·have e1:∀ hi:i<s.size,((s[i].toNat:Int) == 39)=false:=fun _ => by
      rw [beq_eq_false_iff_ne]
      intro h
      exact e (UInt8.toNat_inj.1 (by show _=39; omega))
     have HG2:Hid (gq s.data.toList f (i+1) (T ++ s.extract i (i+1)).data.toList=R):=by
      show _=_
      rw [HF.out,← HG.out,if_neg e]
     clear hx hx' e
     go_wp2
     exact ⟨⟨i+1,f,_,by omega,by omega,rfl,rfl,by rw [HL.out]; omega,by rw [HL.out]; omega,by omega,HG2.out⟩,by show 50 - (i+1)<50 - i; omega⟩
   ·have hq:decide ((i:Int)<(s.size:Int) - 1)=false ∨ (decide ((i:Int)<(s.size:Int) - 1)=true∧decide ((i:Int)<40)=false):=by
     by_cases h:i<s.size - 1
     ·right; exact ⟨by rw [decide_eq_true_eq]; omega,by rw [decide_eq_false_iff_not]; omega⟩
     ·left; rw [decide_eq_false_iff_not]; omega
    have HF:Hid (T=⟨R.toArray⟩):=bytes_eq (by rw [← hg.out,gq_end _ _ (by rw [lenB]; exact hc)])
    clear hc
    rcases hq with e1 | ⟨e1,e2⟩
    all_goals
     go_wp2
     refine bodyPost_ret (by simp [results,Tryz.results176,go_sem]; try rfl) rfl ?_
     first | exact ⟨by rw [HF.out],below_alloc _ _⟩ | exact ⟨by rw [HF.out]; rfl,below_alloc _ _⟩
def W3 (s:ByteArray):Prop:=decide ((1:Int)<(s.size:Int))=false ∨ (1<s.size∧decide ((1:Int)<(s.size:Int))=true∧decide ((s.size:Int)<5)=false∧∀ hi:0<s.size,((s[0].toNat:Int) == 39)=false) ∨
 (1<s.size∧decide ((1:Int)<(s.size:Int))=true∧decide ((s.size:Int)<5)=true∧(∀ hi:0<s.size,((s[0].toNat:Int) == 63)=false)∧∀ hi:0<s.size,((s[0].toNat:Int) == 39)=false)
set_option maxHeartbeats 3200000 in
theorem guess_none (s:ByteArray) (w:World) (t1:(s.toList == [116,114,117,101])=false) (t2:(s.toList == [102,97,108,115,101])=false) (hw:W3 s) (l:30≤s.size) :
  Calls Tryz.prog 176 #[.string s] w (RetV zeroV.v w):=by
 have HB:=Lib.hid (below_alloc w (.cells #[.int .i64 0,.int .i64 0,.int .i64 0,.string ⟨#[]⟩] 59))
 have h30:decide ((s.size:Int)<30)=false:=by rw [decide_eq_false_iff_not]; omega
 rcases hw with q1 | ⟨q0,q1,q2,q3⟩ | ⟨q0,q1,q2,q3,q4⟩
 all_goals
  go_enter Tryz.func176,Tryz.ntmps176
  go_wp2
  refine bodyPost_ret (by simp [results,Tryz.results176,go_sem]; try rfl) rfl ?_
  first | exact ⟨rfl,below_set4 HB.out⟩ | exact ⟨rfl,below_alloc _ _⟩
set_option maxHeartbeats 3200000 in
theorem guess_ratN (s:ByteArray) (w:World) (t1:(s.toList == [116,114,117,101])=false) (t2:(s.toList == [102,97,108,115,101])=false) (hw:W3 s) (l:s.size<30) (hp:parseQ s.data.toList=none) :
  Calls Tryz.prog 176 #[.string s] w (RetV zeroV.v w):=by
 have C:=fun w1 => parse9_any s w1 (by omega)
 simp only [hp] at C
 have C:=Lib.hid C
 rename_i C'
 clear C' hp
 have HR:=Lib.hid (ResV.made w 59)
 have HB:=Lib.hid (below_alloc w (.cells #[.int .i64 0,.int .i64 0,.int .i64 0,.string ⟨#[]⟩] 59))
 have h30:decide ((s.size:Int)<30)=true:=by rw [decide_eq_true_eq]; omega
 rcases hw with q1 | ⟨q0,q1,q2,q3⟩ | ⟨q0,q1,q2,q3,q4⟩
 all_goals
  go_enter Tryz.func176,Tryz.ntmps176
  go_wp2_with fail
  refine (C.out _).mono ?_
  rintro e w1 ⟨rfl,hb⟩
  have HR1:=HR.out.later hb (by simp)
  obtain ⟨⟨r0,r1,r2,r3⟩,f0,f1,f2,f3⟩:=HR1.later (below_alloc w1 (.cells #[.bool false,.slice none 0 0,.slice none 0 0] 136)) (World.block_lt_of_cell? _ _ HR1.box.kind)
  have hB1:=below_keep HB.out hb
  have HB1:=Lib.hid (hB1.alloc hB1.size (.cells #[.bool false,.slice none 0 0,.slice none 0 0] 136))
  clear hb C HR1 hB1
  go_wp2
  refine bodyPost_ret (by simp [results,Tryz.results176,go_sem,r0,r1,r2,r3]; try rfl) rfl ?_
  exact ⟨rfl,below_set4 HB1.out⟩
set_option maxHeartbeats 3200000 in
theorem guess_ratS (s:ByteArray) (q:Rat) (w:World) (t1:(s.toList == [116,114,117,101])=false) (t2:(s.toList == [102,97,108,115,101])=false) (hw:W3 s) (l:s.size<30) (hp:parseQ s.data.toList=some q) :
  Calls Tryz.prog 176 #[.string s] w (RetV (valQ q).v w):=by
 have C:=fun w1 => parse9_any s w1 (by omega)
 simp only [hp] at C
 have C:=Lib.hid C
 rename_i C'
 clear C' hp
 have D:=Lib.hid (fun w1 v (h:Q9 w1 v q) => value9_any h)
 obtain ⟨⟨y0,y1,y2,y3⟩,hy⟩:∃ y,y=valQ q:=⟨_,rfl⟩
 rw [← hy] at D ⊢
 clear hy
 have HR:=Lib.hid (ResV.made w 59)
 have HB:=Lib.hid (below_alloc w (.cells #[.int .i64 0,.int .i64 0,.int .i64 0,.string ⟨#[]⟩] 59))
 have h30:decide ((s.size:Int)<30)=true:=by rw [decide_eq_true_eq]; omega
 rcases hw with q1 | ⟨q0,q1,q2,q3⟩ | ⟨q0,q1,q2,q3,q4⟩
 all_goals
  go_enter Tryz.func176,Tryz.ntmps176
  go_wp2_with fail
  refine (C.out _).mono ?_
  rintro e w1 ⟨v1,rfl,⟨vn,vd,rfl,hn,hd⟩,hb⟩
  obtain ⟨a1,n1,c1,rfl,-⟩:=hn.shape (by decide)
  obtain ⟨a2,n2,c2,rfl,-⟩:=hd.shape (by decide)
  obtain ⟨b,hb1⟩:∃ b,b=qneg q:=⟨_,rfl⟩
  rw [← hb1]
  have HR1:=HR.out.later hb (by simp)
  have HR2:=Lib.hid (HR1.later (below_alloc w1 (.cells #[.bool b,.slice a1 n1 c1,.slice a2 n2 c2] 136)) (World.block_lt_of_cell? _ _ HR1.box.kind))
  have hB1:=below_keep HB.out hb
  have HB1:=Lib.hid (hB1.alloc hB1.size (.cells #[.bool b,.slice a1 n1 c1,.slice a2 n2 c2] 136))
  have D1:=Lib.hid (D.out (w1.alloc (.cells #[.bool b,.slice a1 n1 c1,.slice a2 n2 c2] 136)) (.agg #[.bool b,.slice a1 n1 c1,.slice a2 n2 c2]) ⟨_,_,by rw [hb1],hn.later (below_alloc _ _),hd.later (below_alloc _ _)⟩)
  clear hb C D HR1 hB1 hn hd hb1
  go_wp2_with fail
  refine D1.out.mono ?_
  rintro e w2 ⟨rfl,hb⟩
  obtain ⟨⟨r0,r1,r2,r3⟩,f0,f1,f2,f3⟩:=HR2.out.later hb (World.block_lt_of_cell? _ _ HR2.out.box.kind)
  have HB2:=Lib.hid (below_keep HB1.out hb)
  clear hb D1
  go_wp2
  refine bodyPost_ret (by simp [results,Tryz.results176,go_sem,r0,r1,r2,r3]; try rfl) rfl ?_
  exact ⟨rfl,below_set4 HB2.out⟩
theorem guess_any (s:ByteArray) (w:World) (hs:s.size≤20000) :
  Calls Tryz.prog 176 #[.string s] w (RetV (guessV s.data.toList).v w):=by
 unfold guessV
 by_cases h1:s.data.toList=sTrue
 ·rw [if_pos (.inl h1)]
  have e:s=⟨#[116,114,117,101]⟩:=bytes_eq h1
  subst e
  exact guess_true w
 by_cases h2:s.data.toList=sFalse
 ·rw [if_pos (.inr h2)]
  have e:s=⟨#[102,97,108,115,101]⟩:=bytes_eq h2
  subst e
  exact guess_false w
 rw [if_neg (fun h => h.elim h1 h2),lenB]
 have t1:=lit_ne h1
 have t2:=lit_ne h2
 by_cases h3:1<s.size∧s.size<5∧s.data.toList.head? = some 63
 ·rw [if_pos h3]
  have h0:=head_at (n:=63) rfl h3.2.2
  cases hp:parseD (s.data.toList.drop 1) with
  | none => exact guess_missN s w t1 t2 h3.1 h3.2.1 h0 hp
  | some n => exact guess_missS s n w t1 t2 h3.1 h3.2.1 h0 hp
 rw [if_neg h3]
 by_cases h4:1<s.size∧s.data.toList.head? = some 39
 ·rw [if_pos h4]
  refine guess_text s w t1 t2 ?_ (head_at (n:=39) rfl h4.2) h4.1 hs
  have q1:decide ((1:Int)<(s.size:Int))=true:=by rw [decide_eq_true_eq]; omega
  by_cases h5:s.size<5
  ·exact .inr ⟨q1,by rw [decide_eq_true_eq]; omega,head_not (c:=63) (n:=63) rfl (by rw [h4.2]; decide)⟩
  ·exact .inl ⟨q1,by rw [decide_eq_false_iff_not]; omega⟩
 rw [if_neg h4]
 have hw:W3 s:=by
  by_cases l1:1<s.size
  ·have q1:decide ((1:Int)<(s.size:Int))=true:=by rw [decide_eq_true_eq]; omega
   have q2:=head_not (s:=s) (c:=39) (n:=39) rfl (fun h => h4 ⟨l1,h⟩)
   by_cases h5:s.size<5
   ·exact .inr (.inr ⟨l1,q1,by rw [decide_eq_true_eq]; omega,head_not (n:=63) (c:=63) rfl (fun h => h3 ⟨l1,h5,h⟩),q2⟩)
   ·exact .inr (.inl ⟨l1,q1,by rw [decide_eq_false_iff_not]; omega,q2⟩)
  ·exact .inl (by rw [decide_eq_false_iff_not]; omega)
 by_cases h5:s.size<30
 ·rw [if_pos h5]
  cases hp:parseQ s.data.toList with
  | none => exact guess_ratN s w t1 t2 hw h5 hp
  | some q => exact guess_ratS s q w t1 t2 hw h5 hp
 ·rw [if_neg h5]; exact guess_none s w t1 t2 hw (by omega)
theorem gq_len (l:List UInt8):∀ f i t,(gq l f i t).length≤t.length+f
 | 0,i,t => by simp [gq]
 | f+1,i,t => by
  rw [gq]; split
  ·have:=gq_len l f (if l.getD i 0=39 then i+2 else i+1) (t ++ [l.getD i 0])
   simp only [List.length_append,List.length_singleton] at this; omega
  ·omega
theorem guess_str (l:List UInt8):(guessV l).str.length≤40:=by
 unfold guessV
 split
 ·simp
 split
 ·split <;> simp
 split
 ·have:=gq_len l 40 1 []; simpa using this
 split
 ·split
  ·unfold valQ; split <;> simp
  ·simp
 ·simp
set_option maxHeartbeats 1600000 in
theorem rread_any (s:ByteArray) (w:World) (hs:s.size≤20000) :
  Calls Tryz.prog 143 #[.string s] w (RetV (readE (readM s.data.toList)) w):=by
 have CG:=Lib.hid (fun w1 => guess_any s w1 hs)
 have hl:=guess_str s.data.toList
 obtain ⟨g,hg⟩:∃ g,g=guessV s.data.toList:=⟨_,rfl⟩
 rw [← hg] at CG hl
 have CP:=fun w1 => rprint_any g w1 (by omega)
 have HR:=Lib.hid (ResV.made w 59)
 have HB:=Lib.hid (below_alloc w (.cells #[.int .i64 0,.int .i64 0,.int .i64 0,.string ⟨#[]⟩] 59))
 by_cases hr:rightV (readM s.data.toList)=true
 ·have e:g=readM s.data.toList:=hg.trans (guess_eq hr)
  have hpr:printE g=.tuple #[.string s,.int .i64 0]:=by
   unfold printE
   rw [e,if_pos hr,if_pos hr,readM_print hr]
  have hre:readE (readM s.data.toList)=.tuple #[g.v,.int .i64 0]:=by unfold readE; rw [e,if_pos hr]
  rw [hre]
  simp only [hpr] at CP
  have CP:=Lib.hid CP
  rename_i CP'
  have hss:(s.toList == s.toList)=true:=by simp
  obtain ⟨k,n,d,t⟩:=g
  clear CP' hg hl hr e hpr hre hs
  go_enter Tryz.func143,Tryz.ntmps143
  go_wp2_with fail
  refine (CG.out _).mono ?_
  rintro e w1 ⟨rfl,hb⟩
  have HR1:=HR.out.later hb (by simp)
  have HR2:=Lib.hid (HR1.later (below_alloc w1 (.cells #[.int .i64 k,.int .i64 n,.int .i64 d,.string ⟨t.toArray⟩] 59)) (World.block_lt_of_cell? _ _ HR1.box.kind))
  have hB1:=below_keep HB.out hb
  have HB1:=Lib.hid (hB1.alloc hB1.size (.cells #[.int .i64 k,.int .i64 n,.int .i64 d,.string ⟨t.toArray⟩] 59))
  clear hb CG HR1 hB1
  go_wp2_with fail
  refine (CP.out _).mono ?_
  rintro e w2 ⟨rfl,hb⟩
  obtain ⟨⟨k0,k1,k2,k3⟩,-⟩:=BoxAt.past ⟨k,n,d,t⟩ hb
  obtain ⟨⟨r0,r1,r2,r3⟩,f0,f1,f2,f3⟩:=HR2.out.later hb (World.block_lt_of_cell? _ _ HR2.out.box.kind)
  have HB2:=Lib.hid (below_keep HB1.out hb)
  clear hb CP
  go_wp2
  refine bodyPost_ret (by simp [results,Tryz.results143,go_sem,r0,r1,r2,r3]; try rfl) rfl ?_
  exact ⟨rfl,below_set4 HB2.out⟩
 ·have hre:readE (readM s.data.toList)=.tuple #[zeroV.v,.int .i64 7]:=by unfold readE; rw [if_neg hr]
  rw [hre]
  have hn:¬ (rightV g=true∧printV g=s.data.toList):=fun h => hr ((guess_iff _).1 (hg ▸ h))
  obtain ⟨S,z,hpr,hz⟩:∃ (S:ByteArray) (z:Int),printE g=.tuple #[.string S,.int .i64 z]∧((z != 0)=true ∨ ((z != 0)=false∧(S.toList != s.toList)=true)):=by
   unfold printE
   by_cases h:rightV g=true
   ·refine ⟨_,_,rfl,.inr ⟨by rw [if_pos h]; rfl,?_⟩⟩
    rw [if_pos h,ByteArray.toList_eq,ByteArray.toList_eq,bne_iff_ne]
    exact fun e => hn ⟨h,by simpa using e⟩
   ·exact ⟨_,_,rfl,.inl (by rw [if_neg h]; rfl)⟩
  simp only [hpr] at CP
  have CP:=Lib.hid CP
  rename_i CP'
  obtain ⟨k,n,d,t⟩:=g
  clear CP' hg hl hr hpr hre hs hn
  have hz':((z != 0)=true) ∨ ((z != 0)=false∧(S.toList != s.toList)=true∧(S.toList == s.toList)=false):=by
   rcases hz with h | ⟨h1,h2⟩
   ·exact .inl h
   ·exact .inr ⟨h1,h2,by simpa using h2⟩
  clear hz
  rcases hz' with z1 | ⟨z1,z2,z3⟩
  all_goals
   go_enter Tryz.func143,Tryz.ntmps143
   go_wp2_with fail
   refine (CG.out _).mono ?_
   rintro e w1 ⟨rfl,hb⟩
   have HR1:=HR.out.later hb (by simp)
   have HR2:=Lib.hid (HR1.later (below_alloc w1 (.cells #[.int .i64 k,.int .i64 n,.int .i64 d,.string ⟨t.toArray⟩] 59)) (World.block_lt_of_cell? _ _ HR1.box.kind))
   have hB1:=below_keep HB.out hb
   have HB1:=Lib.hid (hB1.alloc hB1.size (.cells #[.int .i64 k,.int .i64 n,.int .i64 d,.string ⟨t.toArray⟩] 59))
   clear hb CG HR1 hB1
   go_wp2_with fail
   refine (CP.out _).mono ?_
   rintro e w2 ⟨rfl,hb⟩
   obtain ⟨⟨r0,r1,r2,r3⟩,f0,f1,f2,f3⟩:=HR2.out.later hb (World.block_lt_of_cell? _ _ HR2.out.box.kind)
   have HB2:=Lib.hid (below_keep HB1.out hb)
   clear hb CP
   go_wp2
   refine bodyPost_ret (by simp [results,Tryz.results143,go_sem,r0,r1,r2,r3]; try rfl) rfl ?_
   exact ⟨rfl,below_set4 HB2.out⟩
end Go.Proofs.YtdbnebhehiiakaaGreatDoor
