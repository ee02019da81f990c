/- Lemmas and contracts, each under its own condition: Plain laws: texts in quotes, valid values, their strings, their order. No program in sight. The operations: plain. No program in sight. -/
import Derived.Lib.Replace
import Derived.Lib.SplitLaws
import Derived.Laws.RangeAny
import Derived.Shelf.GgClosure.StringsIndexFunc
import Derived.Test.YtdbnebhehiiakaaGreatDoorR1
import Derived.Test.YtdbnebhehiiakaaGreatDoorT1
namespace Go.Proofs.YtdbnebhehiiakaaGreatDoor
open Go.RowKit
def okB (c:UInt8):Bool:=decide (32≤c.toNat∧c.toNat≤126)
def oddR (r:Nat):Bool:=decide ((r:Int)<32 ∨ 126<(r:Int))
theorem okB_iff (c:UInt8):okB c=true ↔ 32≤c.toNat∧c.toNat≤126:=by simp [okB]
theorem oddR_iff (r:Nat):oddR r=true ↔ r<32 ∨ 126<r:=by unfold oddR; rw [decide_eq_true_eq]; omega
theorem idxFrom_ok (s:ByteArray):∀ f pos,s.size≤pos+f→(Lib.idxFuncFrom oddR true s f pos<0 ↔ (s.data.toList.drop pos).all okB=true)
 | 0,pos,h => by
  rw [List.drop_eq_nil_of_le (by rw [lenB]; omega)]; simp [Lib.idxFuncFrom]
 | f+1,pos,h => by
  unfold Lib.idxFuncFrom
  by_cases hp:pos<s.size
  ·rw [if_pos hp]
   have hd:s.data.toList.drop pos=s[pos] :: s.data.toList.drop (pos+1):=by
    rw [List.drop_eq_getElem_cons (by rw [lenB]; exact hp)]; rfl
   rw [hd,List.all_cons]
   by_cases ha:s[pos].toNat<128
   ·rw [decode_ascii s pos hp ha]
    by_cases ho:okB s[pos]=true
    ·have h1:¬ oddR s[pos].toNat=true:=by rw [oddR_iff]; rw [okB_iff] at ho; omega
     rw [if_neg h1,ho,Bool.true_and]
     exact idxFrom_ok s f (pos+1) (by omega)
    ·have h1:oddR s[pos].toNat=true:=by rw [oddR_iff]; rw [okB_iff] at ho; omega
     rw [if_pos h1]
     have h2:okB s[pos]=false:=by simpa using ho
     rw [h2,Bool.false_and]
     constructor
     ·intro h; omega
     ·intro h; cases h
   ·have h0:=(decode_high s pos hp (by omega)).1
    have h1:oddR (Utf8.decode s pos).1=true:=by rw [oddR_iff]; omega
    have h2:okB s[pos]=false:=by
     rw [Bool.eq_false_iff]; intro e; rw [okB_iff] at e; omega
    rw [if_pos h1,h2,Bool.false_and]
    constructor
    ·intro h; omega
    ·intro h; cases h
  ·rw [if_neg hp,List.drop_eq_nil_of_le (by rw [lenB]; omega)]; simp
theorem idx_okB (s:ByteArray):Lib.idxFunc oddR true s<0 ↔ s.data.toList.all okB=true:=by
 have:=idxFrom_ok s s.size 0 (by omega)
 rwa [List.drop_zero] at this
theorem ra_eq (s old new:List UInt8) (hne:old ≠ new):Lib.replaceAll s old new=Lib.replaceK old new (Lib.count s old) s:=by
 have h:(old == new)=false:=by simpa using hne
 simp [Lib.replaceAll,Lib.replace,h,Lib.replaceNum]
theorem ra_nil (old new:List UInt8) (hne:old ≠ new) (h0:old ≠ []):Lib.replaceAll [] old new=[]:=by
 have hi:Lib.index [] old = -1:=by
  cases old with
  | nil => exact absurd rfl h0
  | cons a b => simp [Lib.index]
 rw [ra_eq _ _ _ hne,Lib.count_miss hi,Lib.replaceK]
theorem ra_hit (s old new:List UInt8) (hne:old ≠ new) (h0:old ≠ []) (h:old.isPrefixOf s=true):Lib.replaceAll s old new=new ++ Lib.replaceAll (s.drop old.length) old new:=by
 have hi:Lib.index s old=(0:Nat):=by
  cases s with
  | nil =>
   cases old with
   | nil => exact absurd rfl h0
   | cons a b => simp at h
  | cons a b => rw [Lib.index,h]; rfl
 rw [ra_eq _ _ _ hne,ra_eq _ _ _ hne,Lib.count_hit h0 hi,Nat.add_comm 1,Lib.replaceK_hit _ _ _ _ _ hi]
 simp
theorem ra_miss (c:UInt8) (s old new:List UInt8) (hne:old ≠ new) (h0:old ≠ []) (h:old.isPrefixOf (c :: s)=false):Lib.replaceAll (c :: s) old new=c :: Lib.replaceAll s old new:=by
 have hix:Lib.index (c :: s) old=if Lib.index s old == -1 then -1 else Lib.index s old+1:=by rw [Lib.index,h]; simp
 rw [ra_eq _ _ _ hne,ra_eq _ _ _ hne]
 by_cases hm:Lib.index s old = -1
 ·rw [Lib.count_miss hm,Lib.count_miss (by rw [hix,if_pos (beq_iff_eq.2 hm)])]; rfl
 ·have hge:=Lib.index_ge s old
  obtain ⟨j,hj⟩:∃ j:Nat,Lib.index s old=j:=⟨(Lib.index s old).toNat,by omega⟩
  have hix':Lib.index (c :: s) old=((j+1:Nat):Int):=by rw [hix,if_neg (fun e => hm (beq_iff_eq.1 e)),hj]; omega
  rw [Lib.count_hit h0 hj,Lib.count_hit h0 hix',show j+1+old.length=(j+old.length)+1 from by omega,List.drop_succ_cons,Nat.add_comm 1,
   Lib.replaceK_hit _ _ _ _ _ hj,Lib.replaceK_hit _ _ _ _ _ hix',show j+1+old.length=(j+old.length)+1 from by omega,List.drop_succ_cons,List.take_succ_cons]
  rfl
def dbl:List UInt8→List UInt8
 | [] => []
 | c :: l => if c=39 then 39 :: 39 :: dbl l else c :: dbl l
def undb:List UInt8→List UInt8
 | [] => []
 | [c] => [c]
 | a :: b :: l => if a=39∧b=39 then 39 :: undb l else a :: undb (b :: l)
theorem ra_dbl (l:List UInt8):Lib.replaceAll l [39] [39,39]=dbl l:=by
 induction l with
 | nil => exact ra_nil _ _ (by decide) (by decide)
 | cons c l ih =>
  by_cases h:c=39
  ·subst h
   rw [ra_hit _ _ _ (by decide) (by decide) (by simp [List.isPrefixOf]),dbl,if_pos rfl,← ih]; rfl
  ·rw [ra_miss _ _ _ _ (by decide) (by decide) (by simp [List.isPrefixOf,Ne.symm h]),dbl,if_neg h,ih]
theorem ra_undb:∀ l:List UInt8,Lib.replaceAll l [39,39] [39]=undb l
 | [] => ra_nil _ _ (by decide) (by decide)
 | [c] => by rw [ra_miss _ _ _ _ (by decide) (by decide) (by simp [List.isPrefixOf]),ra_nil _ _ (by decide) (by decide)]; rfl
 | a :: b :: l => by
  by_cases h:a=39∧b=39
  ·obtain ⟨rfl,rfl⟩:=h
   rw [ra_hit _ _ _ (by decide) (by decide) (by simp [List.isPrefixOf]),undb,if_pos ⟨rfl,rfl⟩,← ra_undb l]; rfl
  ·rw [ra_miss _ _ _ _ (by decide) (by decide) (by
    rw [Bool.eq_false_iff]; intro e; apply h; simp [List.isPrefixOf] at e; exact ⟨e.1.symm,e.2.symm⟩),undb,if_neg h,ra_undb (b :: l)]
theorem undb_cons {c:UInt8} (l:List UInt8) (h:c ≠ 39):undb (c :: l)=c :: undb l:=by
 cases l with
 | nil => rfl
 | cons b l => rw [undb,if_neg (fun e => h e.1)]
theorem undb_dbl (l:List UInt8):undb (dbl l)=l:=by
 induction l with
 | nil => rfl
 | cons c l ih =>
  by_cases h:c=39
  ·subst h; rw [dbl,if_pos rfl,undb,if_pos ⟨rfl,rfl⟩,ih]
  ·rw [dbl,if_neg h,undb_cons _ h,ih]
theorem dbl_len (l:List UInt8):(dbl l).length≤2 * l.length:=by
 induction l with
 | nil => simp [dbl]
 | cons c l ih => rw [dbl]; split <;> simp only [List.length_cons] <;> omega
theorem undb_len:∀ l:List UInt8,(undb l).length≤l.length
 | [] => by simp [undb]
 | [c] => by simp [undb]
 | a :: b :: l => by
  rw [undb]
  split
  ·have:=undb_len l; simp only [List.length_cons]; omega
  ·have:=undb_len (b :: l); simp only [List.length_cons] at *; omega
def qOf (x:Va):Rat:=mkRat x.num x.den.toNat
def rightV (x:Va):Bool :=
 if x.kind=0 then decide (x.den=0∧x.str=[]∧1≤x.num∧x.num≤255)
 else if x.kind=1 then decide (x.den=0∧x.str=[]∧(x.num=0 ∨ x.num=1))
 else if x.kind=2 then decide (x.str=[]∧1≤x.den∧x.den≤1099511627776 ∧ -1099511627776≤x.num∧x.num≤1099511627776∧Nat.gcd x.num.natAbs x.den.natAbs=1)
 else if x.kind=3 then decide (x.num=0∧x.den=0∧x.str.length≤16∧x.str.all okB=true)
 else false
abbrev missV (r:Int):Va:=⟨0,r,0,[]⟩
abbrev truthV (b:Bool):Va:=⟨1,if b then 1 else 0,0,[]⟩
abbrev zeroV:Va:=⟨0,0,0,[]⟩
abbrev ratV (q:Rat):Va:=⟨2,q.num,q.den,[]⟩
abbrev textV (s:List UInt8):Va:=⟨3,0,0,s⟩
structure FitQ (q:Rat):Prop where
 num:qnum q≤T40
 den:q.den≤T40
theorem qOf_ratV (q:Rat):qOf (ratV q)=q:=by
 unfold qOf; simp [Rat.mkRat_self]
theorem right_miss {r:Int} (h1:1≤r) (h2:r≤255):rightV (missV r)=true:=by simp [rightV,h1,h2]
theorem right_bool (b:Bool):rightV (truthV b)=true:=by cases b <;> simp [rightV]
theorem right_rat {q:Rat} (h:FitQ q):rightV (ratV q)=true:=by
 have h1:=h.num
 have h2:=h.den
 have h3:=q.den_pos
 have h4:=q.reduced
 unfold qnum T40 at *
 have h5:Nat.gcd q.num.natAbs (q.den:Int).natAbs=1:=by rw [Int.natAbs_natCast]; exact h4
 show decide (_=_∧_)=true
 rw [decide_eq_true_eq]
 exact ⟨rfl,by simp only; omega,by simp only; omega,by simp only; omega,by simp only; omega,h5⟩
theorem right_text {s:List UInt8} (h1:s.length≤16) (h2:s.all okB=true):rightV (textV s)=true:=by
 simp [rightV,h1]; simpa using h2
theorem right_zero:rightV zeroV=false:=by decide
theorem right_cases {x:Va} (h:rightV x=true) :
  (∃ r:Int,1≤r∧r≤255∧x=missV r) ∨ (∃ b,x=truthV b) ∨ (∃ q,FitQ q∧x=ratV q) ∨ (∃ s,s.length≤16∧s.all okB=true∧x=textV s):=by
 obtain ⟨k,n,d,s⟩:=x
 unfold rightV at h
 simp only at h
 split at h
 ·simp only [decide_eq_true_eq] at h
  rename_i hk; obtain ⟨h1,h2,h3,h4⟩:=h; subst hk h1 h2
  exact .inl ⟨n,h3,h4,rfl⟩
 split at h
 ·simp only [decide_eq_true_eq] at h
  rename_i hk; obtain ⟨h1,h2,h3⟩:=h; subst hk h1 h2
  rcases h3 with rfl | rfl
  ·exact .inr (.inl ⟨false,rfl⟩)
  ·exact .inr (.inl ⟨true,rfl⟩)
 split at h
 ·simp only [decide_eq_true_eq] at h
  rename_i hk; obtain ⟨h1,h2,h3,h4,h5,h6⟩:=h; subst hk h1
  refine .inr (.inr (.inl ?_))
  obtain ⟨d,rfl⟩:∃ k:Nat,d=k:=⟨d.toNat,by omega⟩
  rw [Int.natAbs_natCast] at h6
  exact ⟨⟨n,d,by omega,h6⟩,⟨by unfold qnum T40; simp only; omega,by unfold T40; simp only; omega⟩,rfl⟩
 split at h
 ·simp only [decide_eq_true_eq] at h
  rename_i hk; obtain ⟨h1,h2,h3,h4⟩:=h; subst hk h1 h2
  exact .inr (.inr (.inr ⟨s,h3,h4,rfl⟩))
 ·cases h
def printV (x:Va):List UInt8 :=
 if x.kind=0 then 63 :: dec x.num.natAbs
 else if x.kind=1 then (if x.num=1 then [116,114,117,101] else [102,97,108,115,101])
 else if x.kind=2 then ratS (qOf x)
 else 39 :: dbl x.str ++ [39]
theorem ratS_head (q:Rat):∃ c l,ratS q=c :: l∧(c=45 ∨ isD c=true):=by
 unfold ratS
 obtain ⟨c,l,h⟩:∃ c l,dec (qnum q)=c :: l:=by
  cases h:dec (qnum q) with
  | nil => exact absurd h (dec_ne _)
  | cons c l => exact ⟨c,l,rfl⟩
 have hc:=dec_digits (qnum q) c (by rw [h]; simp)
 split
 ·exact ⟨45,_,rfl,.inl rfl⟩
 ·rw [h]; exact ⟨c,_,rfl,.inr ((isD_iff c).2 hc)⟩
theorem print_miss (r:Int):printV (missV r)=63 :: dec r.natAbs:=rfl
theorem print_bool (b:Bool):printV (truthV b)=if b then [116,114,117,101] else [102,97,108,115,101]:=by cases b <;> rfl
theorem print_rat (q:Rat):printV (ratV q)=ratS q:=by
 show ratS (qOf (ratV q))=_
 rw [qOf_ratV]
theorem print_text (s:List UInt8):printV (textV s)=39 :: dbl s ++ [39]:=rfl
def headK (l:List UInt8):Nat:=match l with
 | [] => 9
 | c :: _ => if c=63 then 0 else if c=116 ∨ c=102 then 1 else if c=39 then 3 else if c=45 ∨ isD c=true then 2 else 9
theorem head_rat (q:Rat):headK (ratS q)=2:=by
 obtain ⟨c,l,h,hc⟩:=ratS_head q
 rw [h]; unfold headK
 have h1:c ≠ 63∧c ≠ 116∧c ≠ 102∧c ≠ 39:=by
  rcases hc with rfl | hc
  ·decide
  ·refine ⟨?_,?_,?_,?_⟩ <;> (rintro rfl; revert hc; decide)
 simp [h1.1,h1.2.1,h1.2.2.1,h1.2.2.2,hc]
def fitsV (x:Va) (t:Int):Bool :=
 rightV x && decide (1≤t∧t≤4) &&
 (if x.kind=1 then decide (t=1) else if x.kind=2 then decide (t=3 ∨ (t=2∧x.den=1)) else if x.kind=3 then decide (t=4) else true)
end Go.Proofs.YtdbnebhehiiakaaGreatDoor
