/- Lemmas and contracts, each under its own condition: Text in plain words: integers as strings; strings cut and joined. No program in sight. The string of an array, and the program's parser, in plain words. The program's parser in plain words: an array is read again from its string. The reference's parser in plain words: its guess at the string of an array is the array. Strings of arrays: what the library's functions return; space.integer. What the row's list of tables gives: the variables of the library that the parser reads. What the list of tables of SpaceKnown's row gives. -/
import Derived.Lib.AtoiAllCases
import Derived.Lib.ItoaMem
import Derived.Lib.SplitLaws
import Derived.Lib.SmallJoins
import Derived.Lib.AppendIntMem
import Derived.Lib.AtoiErrMem
import Derived.Stop.LaidErr
import Derived.LaidSub
import Derived.MakeChecks
import Derived.Lib.LaidTab
import Derived.Shelf.Vars
import Derived.Test.YtdbnebhehiiakaaGreatDoorE1
import Derived.Test.YtdbnebhehiiakaaGreatDoorRows
import Derived.Test.YtdbnebhehiiakaaGreatDoorS1
import Derived.Test.YtdbnebhehiiakaaGreatDoorS3
import Derived.Test.YtdbnebhehiiakaaGreatDoorShlf
namespace Go.Proofs.YtdbnebhehiiakaaGreatDoor
def itS (n:Int):List UInt8:=if n<0 then 45 :: dec n.natAbs else dec n.natAbs
theorem decDigits_dec:∀ (u:Nat),Lib.decDigits u=dec u:=by
 intro u
 induction u using Nat.strongRecOn with
 | _ u ih =>
  by_cases h:u<10
  ·rw [Lib.decDigits,dif_pos h,dec_small h]; rfl
  ·rw [Lib.decDigits,dif_neg h,dec_big (by omega),ih (u / 10) (by omega)]; rfl
theorem itoa_itS (n:Int):Lib.itoa n=itS n:=by
 unfold Lib.itoa itS
 by_cases h:n<0
 ·rw [if_pos h,if_pos h,decDigits_dec]
 ·rw [if_neg h,if_neg h,decDigits_dec]
  congr 1
  omega
theorem itS_chars {n:Int} {c:UInt8} (h:c ∈ itS n):c=45 ∨ isD c=true:=by
 have hd:∀ u,c ∈ dec u→isD c=true:=fun u hu => List.all_eq_true.1 (dec_parts u).2.2.1 c hu
 unfold itS at h
 split at h
 ·rcases List.mem_cons.1 h with h | h
  ·exact .inl h
  ·exact .inr (hd _ h)
 ·exact .inr (hd _ h)
theorem itS_not {n:Int} {c:UInt8} (h1:c ≠ 45) (h2:isD c=false):c ∉ itS n:=fun h => by
 rcases itS_chars h with h | h
 ·exact h1 h
 ·rw [h2] at h; cases h
theorem parse_snoc:∀ (l:List UInt8) (c:UInt8) (a b:Nat),Lib.parseUint10 a l=.ok b→isD c=true→b<1844674407370955161→Lib.parseUint10 a (l ++ [c])=.ok (b * 10+(c.toNat - 48))
 | [],c,a,b,h,hc,hb => by
  simp only [Lib.parseUint10] at h
  injection h with h
  subst h
  rw [isD_iff] at hc
  rw [List.nil_append,Lib.parseUint10,if_pos hc,if_neg (by omega),if_neg (by omega),Lib.parseUint10]
 | x :: r,c,a,b,h,hc,hb => by
  rw [Lib.parseUint10] at h
  rw [List.cons_append,Lib.parseUint10]
  split at h
  ·rename_i h1
   rw [if_pos h1]
   split at h
   ·cases h
   ·rename_i h2
    rw [if_neg h2]
    split at h
    ·cases h
    ·rename_i h3
     rw [if_neg h3]
     exact parse_snoc r c _ b h hc hb
  ·cases h
theorem parse_dec:∀ (u:Nat),u<18446744073709551610→Lib.parseUint10 0 (dec u)=.ok u:=by
 intro u
 induction u using Nat.strongRecOn with
 | _ u ih =>
  intro hu
  by_cases h:u<10
  ·rw [dec_small h]
   have hc:=dchar_isD h
   have ht:=dchar_toNat h
   rw [isD_iff] at hc
   rw [Lib.parseUint10,if_pos hc,if_neg (by omega),if_neg (by omega),Lib.parseUint10,ht]
   congr 1
   omega
  ·rw [dec_big (by omega),parse_snoc _ _ _ _ (ih (u / 10) (by omega) (by omega)) (dchar_isD (by omega)) (by omega),dchar_toNat (by omega)]
   congr 1
   omega
theorem parseMag_dec {u:Nat} (h:u<18446744073709551610):Lib.parseMag (dec u)=.ok u:=by
 unfold Lib.parseMag
 rw [if_neg (dec_ne u),parse_dec u h]
theorem dec_first (u:Nat):∃ c r,dec u=c :: r∧isD c=true:=by
 have h1:=(dec_parts u).1
 have h2:=(dec_parts u).2.2.1
 cases h:dec u with
 | nil => exact absurd h h1
 | cons c r => rw [h] at h2; exact ⟨c,r,rfl,by simp only [List.all_cons,Bool.and_eq_true] at h2; exact h2.1⟩
theorem atoi_itS {n:Int} (h1 : -9223372036854775808≤n) (h2:n≤9223372036854775807):Lib.atoiAll (itS n)=.ok n:=by
 unfold itS
 by_cases h:n<0
 ·rw [if_pos h,Lib.atoiAll_minus,parseMag_dec (by omega)]
  unfold Lib.signed
  simp only
  rw [if_neg (by omega)]
  congr 1
  omega
 ·rw [if_neg h]
  obtain ⟨c,r,e,hc⟩:=dec_first n.natAbs
  rw [isD_iff] at hc
  rw [e,Lib.atoiAll_plain c r (by omega) (by omega),← e,parseMag_dec (by omega)]
  unfold Lib.signless
  simp only
  rw [if_neg (by omega)]
  congr 1
  omega
def intO (s:List UInt8):Option Int:=match Lib.atoiAll s with
 | .ok v => if itS v=s then some v else none
 | _ => none
theorem intO_itS {n:Int} (h1 : -9223372036854775808≤n) (h2:n≤9223372036854775807):intO (itS n)=some n:=by
 unfold intO
 rw [atoi_itS h1 h2]
 simp
theorem intO_some {s:List UInt8} {n:Int} (h:intO s=some n):itS n=s ∧ -9223372036854775808≤n∧n≤9223372036854775807:=by
 unfold intO at h
 rcases ha:Lib.atoiAll s with v | _ | _
 ·rw [ha] at h
  simp only at h
  split at h
  ·rename_i h1
   cases h
   exact ⟨h1,Lib.atoiAll_bounds ha⟩
  ·cases h
 ·rw [ha] at h
  cases h
 ·rw [ha] at h
  cases h
def splitL (c:UInt8):List UInt8→List (List UInt8)
 | [] => [[]]
 | x :: r => if x=c then [] :: splitL c r else match splitL c r with
  | [] => [[x]]
  | p :: q => (x :: p) :: q
def joinL (c:UInt8):List (List UInt8)→List UInt8
 | [] => []
 | [p] => p
 | p :: q => p ++ c :: joinL c q
theorem splitL_ne (c:UInt8) (s:List UInt8):∃ p q,splitL c s=p :: q:=by
 cases s with
 | nil => exact ⟨_,_,rfl⟩
 | cons x r =>
  rw [splitL]
  split
  ·exact ⟨_,_,rfl⟩
  ·split <;> exact ⟨_,_,rfl⟩
theorem splitL_hit (c:UInt8) (r:List UInt8):splitL c (c :: r)=[] :: splitL c r:=by rw [splitL,if_pos rfl]
theorem splitL_app (c:UInt8):∀ (p r:List UInt8),c ∉ p→splitL c (p ++ c :: r)=p :: splitL c r
 | [],r,_ => by rw [List.nil_append,splitL_hit]
 | x :: p,r,h => by
  have hx:x ≠ c:=fun e => h (by rw [e]; simp)
  rw [List.cons_append,splitL,if_neg hx,splitL_app c p r (fun hm => h (List.mem_cons_of_mem _ hm))]
theorem splitL_end (c:UInt8):∀ (p:List UInt8),c ∉ p→splitL c p=[p]
 | [],_ => rfl
 | x :: p,h => by
  have hx:x ≠ c:=fun e => h (by rw [e]; simp)
  rw [splitL,if_neg hx,splitL_end c p (fun hm => h (List.mem_cons_of_mem _ hm))]
theorem join_cons (c:UInt8) (p:List UInt8) {l:List (List UInt8)} (h:l ≠ []):joinL c (p :: l)=p ++ c :: joinL c l:=by
 cases l with
 | nil => exact absurd rfl h
 | cons q l => rw [joinL]; simp
theorem splitL_join (c:UInt8):∀ (l:List (List UInt8)),l ≠ []→(∀ p ∈ l,c ∉ p)→splitL c (joinL c l)=l
 | [],h,_ => absurd rfl h
 | [p],_,h => by rw [joinL,splitL_end c p (h p (by simp))]
 | p :: q :: l,_,h => by
  rw [join_cons c p (by simp),splitL_app c p _ (h p (by simp)),splitL_join c (q :: l) (by simp) (fun x hx => h x (List.mem_cons_of_mem _ hx))]
theorem join_splitL (c:UInt8):∀ (s:List UInt8),joinL c (splitL c s)=s
 | [] => rfl
 | x :: r => by
  have ih:=join_splitL c r
  obtain ⟨p,q,e⟩:=splitL_ne c r
  rw [splitL]
  split
  ·rename_i h
   subst h
   rw [join_cons x [] (by rw [e]; simp),ih]; rfl
  ·rw [e] at ih ⊢
   simp only
   cases q with
   | nil => rw [joinL] at ih ⊢; rw [ih]
   | cons y z => rw [join_cons c _ (by simp)] at ih ⊢; rw [List.cons_append,ih]
theorem index_cons_ne {x:UInt8} {l sub:List UInt8} (h:sub.isPrefixOf (x :: l)=false):Lib.index (x :: l) sub=if Lib.index l sub = -1 then -1 else Lib.index l sub+1:=by
 rw [Lib.index,h]; simp
theorem index_at {c:UInt8} {t:List UInt8}:∀ (a b:List UInt8),c ∉ a→Lib.index (a ++ (c :: t) ++ b) (c :: t)=a.length
 | [],b,_ => by
  rw [List.nil_append,List.cons_append,Lib.index]
  simp
 | x :: a,b,h => by
  have hx:x ≠ c:=fun e => h (by rw [e]; simp)
  have ih:=index_at (t:=t) a b (fun hm => h (List.mem_cons_of_mem _ hm))
  rw [List.cons_append,List.cons_append,index_cons_ne (by simp [List.isPrefixOf,Ne.symm hx]),ih,if_neg (by omega)]
  simp
theorem cutT_at {c:UInt8} {t a b:List UInt8} (h:c ∉ a):Lib.cut (a ++ (c :: t) ++ b) (c :: t)=(a,b,true):=by
 unfold Lib.cut
 rw [index_at a b h,if_pos (by omega)]
 have e1:(a ++ (c :: t) ++ b).take ((a.length:Int)).toNat=a:=by simp
 have e2:(a ++ (c :: t) ++ b).drop (((a.length:Int)).toNat+(c :: t).length)=b:=by
  rw [show ((a.length:Int)).toNat+(c :: t).length=(a ++ (c :: t)).length by simp]
  exact List.drop_left
 rw [e1,e2]
theorem cutT_some {s sep a b:List UInt8} (h:Lib.cut s sep=(a,b,true)):s=a ++ sep ++ b:=by
 unfold Lib.cut at h
 rcases Lib.index_spec s sep with ⟨h1,-⟩ | ⟨i,h1,h2,h3,-⟩
 ·rw [h1,if_neg (by decide)] at h
  cases h
 ·rw [h1,if_pos (by omega)] at h
  simp only [Prod.mk.injEq] at h
  obtain ⟨ha,hb,-⟩:=h
  unfold Lib.occAt at h3
  rw [List.isPrefixOf_iff_prefix] at h3
  obtain ⟨u,hu⟩:=h3
  have e1:(i:Int).toNat=i:=by omega
  rw [e1] at ha hb
  subst ha
  have e2:s.drop (i+sep.length)=u:=by
   rw [← List.drop_drop,← hu]; exact List.drop_left
  rw [← hb,e2,List.append_assoc,hu,List.take_append_drop]
theorem splitK_L (c:UInt8):∀ (k:Nat) (s:List UInt8),Lib.count s [c]=k→Lib.splitK [c] 0 k s=splitL c s:=by
 intro k
 induction k with
 | zero =>
  intro s h
  rw [Lib.count_one,List.count_eq_zero] at h
  rw [Lib.splitK,splitL_end c s h]
 | succ k ih =>
  intro s h
  have h':=h
  rw [Lib.count_one] at h
  have hm:c ∈ s:=List.count_pos_iff.1 (by omega)
  obtain ⟨a,b,rfl,hna⟩:=List.eq_append_cons_of_mem hm
  have hix:Lib.index (a ++ c :: b) [c]=a.length:=by
   have:=index_at (c:=c) (t:=[]) a b hna
   simpa using this
  have hd:(a ++ c :: b).drop (a.length+[c].length)=b:=by
   rw [show a ++ c :: b=(a ++ [c]) ++ b by simp,show a.length+[c].length=(a ++ [c]).length by simp]
   exact List.drop_left
  have hct:=Lib.count_hit (s:=a ++ c :: b) (sub:=[c]) (by simp) hix
  rw [hd,h'] at hct
  have hb:Lib.count b [c]=k:=by omega
  rw [Lib.splitK,hix,if_neg (by simp)]
  simp only [Int.toNat_natCast,Nat.add_zero]
  rw [hd,ih b hb,List.take_left,splitL_app c a b hna]
end Go.Proofs.YtdbnebhehiiakaaGreatDoor
namespace Go.Proofs.YtdbnebhehiiakaaGreatDoor
def wordT (k:Int):List UInt8:=if k=1 then [98,111,111,108] else if k=2 then [105,110,116] else if k=3 then [114,97,116] else if k=4 then [116,101,120,116] else []
def hiS (h:Int):List UInt8:=if h=1073741825 then [42] else itS h
def dimB (d:DimT):List UInt8:=d.name ++ 32 :: (itS d.lo ++ 58 :: hiS d.hi)
def attrB (a:AttrT):List UInt8:=a.name ++ 32 :: wordT a.ty
def vaS:List Va→List UInt8
 | [] => []
 | [v] => printV v
 | v :: r => printV v ++ 44 :: 32 :: vaS r
def dimL (d:DimT):List UInt8:=100 :: 105 :: 109 :: 32 :: dimB d
def attrL (a:AttrT):List UInt8:=97 :: 116 :: 116 :: 114 :: 32 :: attrB a
def cellB (c:CellT):List UInt8:=joinL 32 (c.co.map itS) ++ 58 :: 32 :: vaS c.vals
def linesA (x:ArrT):List (List UInt8):=x.dims.map dimL ++ x.attrs.map attrL ++ x.cells.map cellB
def prA (x:ArrT):List UInt8:=(linesA x).flatMap (· ++ [10])
theorem prA_join:∀ (l:List (List UInt8)),l ≠ []→l.flatMap (· ++ [10])=joinL 10 l ++ [10]
 | [],h => absurd rfl h
 | [p],_ => by simp [joinL]
 | p :: q :: r,_ => by rw [List.flatMap_cons,prA_join (q :: r) (by simp),join_cons 10 p (by simp)]; simp
theorem vaS_cons (v:Va) {l:List Va} (h:l ≠ []):vaS (v :: l)=printV v ++ 44 :: 32 :: vaS l:=by
 cases l with
 | nil => exact absurd rfl h
 | cons u l => rw [vaS]; simp
def hiO (s:List UInt8):Option Int:=if s=[42] then some 1073741825 else match intO s with
 | some h => if h<1073741825 then some h else none
 | none => none
def dimO (s:List UInt8):Option DimT:=match intO (Lib.cut (Lib.cut s [32]).2.1 [58]).1,hiO (Lib.cut (Lib.cut s [32]).2.1 [58]).2.1 with
 | some lo,some hi => if (Lib.cut s [32]).2.2=true∧(Lib.cut (Lib.cut s [32]).2.1 [58]).2.2=true then some ⟨(Lib.cut s [32]).1,lo,hi⟩ else none
 | _,_ => none
def tyO (s:List UInt8):Option Int:=if wordT 1=s then some 1 else if wordT 2=s then some 2 else if wordT 3=s then some 3 else if wordT 4=s then some 4 else none
def attrO (s:List UInt8):Option AttrT:=match tyO (Lib.cut s [32]).2.1 with
 | some t => some ⟨(Lib.cut s [32]).1,t⟩
 | none => none
theorem wordT_not (k:Int) (c:UInt8) (h:c.toNat<97):c ∉ wordT k:=by
 unfold wordT
 intro hm
 split at hm
 ·simp only [List.mem_cons,List.not_mem_nil,or_false] at hm
  rcases hm with rfl | rfl | rfl | rfl <;> simp at h
 ·split at hm
  ·simp only [List.mem_cons,List.not_mem_nil,or_false] at hm
   rcases hm with rfl | rfl | rfl <;> simp at h
  ·split at hm
   ·simp only [List.mem_cons,List.not_mem_nil,or_false] at hm
    rcases hm with rfl | rfl | rfl <;> simp at h
   ·split at hm
    ·simp only [List.mem_cons,List.not_mem_nil,or_false] at hm
     rcases hm with rfl | rfl | rfl | rfl <;> simp at h
    ·cases hm
theorem hiS_not {h:Int} {c:UInt8} (h1:c ≠ 45) (h2:isD c=false) (h3:c ≠ 42):c ∉ hiS h:=by
 unfold hiS
 split
 ·intro hm
  simp only [List.mem_singleton] at hm
  exact h3 hm
 ·exact itS_not h1 h2
theorem hiO_hiS {h:Int} (h1 : -9223372036854775808≤h) (h2:h≤1073741825):hiO (hiS h)=some h:=by
 unfold hiO hiS
 by_cases he:h=1073741825
 ·rw [if_pos he,if_pos rfl,he]
 ·rw [if_neg he,if_neg,intO_itS h1 (by omega)]
  ·simp only
   rw [if_pos (by omega)]
  ·intro e
   have:(42:UInt8) ∉ itS h:=itS_not (by decide) (by decide)
   rw [e] at this
   exact this (by simp)
theorem hiO_some {s:List UInt8} {h:Int} (hh:hiO s=some h):hiS h=s ∧ -9223372036854775808≤h∧h≤1073741825:=by
 unfold hiO at hh
 split at hh
 ·rename_i h1
  cases hh
  exact ⟨by rw [h1]; rfl,by decide,by decide⟩
 ·split at hh
  ·rename_i k hk
   split at hh
   ·rename_i hlt
    cases hh
    obtain ⟨k1,k2,k3⟩:=intO_some hk
    unfold hiS
    rw [if_neg (by omega)]
    exact ⟨k1,k2,by omega⟩
   ·cases hh
  ·cases hh
theorem dimO_dimB {d:DimT} (h0:32 ∉ d.name) (h1 : -9223372036854775808≤d.lo) (h2:d.lo≤9223372036854775807) (h3 : -9223372036854775808≤d.hi) (h4:d.hi≤1073741825):dimO (dimB d)=some d:=by
 have e1:Lib.cut (dimB d) [32]=(d.name,itS d.lo ++ 58 :: hiS d.hi,true):=by
  have:=cutT_at (c:=32) (t:=[]) (b:=itS d.lo ++ 58 :: hiS d.hi) h0
  simpa [dimB] using this
 have e2:Lib.cut (itS d.lo ++ 58 :: hiS d.hi) [58]=(itS d.lo,hiS d.hi,true):=by
  have:=cutT_at (c:=58) (t:=[]) (a:=itS d.lo) (b:=hiS d.hi) (itS_not (by decide) (by decide))
  simpa using this
 unfold dimO
 rw [e1]
 simp only
 rw [e2]
 simp only
 rw [intO_itS h1 h2,hiO_hiS h3 h4]
 simp
theorem cutT_true {s sep:List UInt8} (h:(Lib.cut s sep).2.2=true):s=(Lib.cut s sep).1 ++ sep ++ (Lib.cut s sep).2.1:=by
 refine cutT_some (s:=s) (sep:=sep) ?_
 rw [← h]
theorem dimO_some {s:List UInt8} {d:DimT} (h:dimO s=some d):dimB d=s:=by
 unfold dimO at h
 split at h
 ·rename_i lo hi h1 h2
  split at h
  ·rename_i hc
   cases h
   have k1:=cutT_true hc.1
   have k2:=cutT_true hc.2
   have k3:=(intO_some h1).1
   have k4:=(hiO_some h2).1
   unfold dimB
   simp only
   rw [k3,k4]
   generalize Lib.cut s [32]=p at k1 k2
   generalize Lib.cut p.2.1 [58]=q at k2
   rw [k1,k2]
   simp
  ·cases h
 ·cases h
theorem tyO_word {t:Int} (h1:1≤t) (h2:t≤4):tyO (wordT t)=some t:=by
 obtain rfl | rfl | rfl | rfl:t=1 ∨ t=2 ∨ t=3 ∨ t=4:=by omega
 all_goals decide
theorem tyO_some {s:List UInt8} {t:Int} (h:tyO s=some t):wordT t=s∧1≤t∧t≤4:=by
 unfold tyO at h
 split at h
 ·rename_i e; cases h; exact ⟨e,by decide,by decide⟩
 ·split at h
  ·rename_i e; cases h; exact ⟨e,by decide,by decide⟩
  ·split at h
   ·rename_i e; cases h; exact ⟨e,by decide,by decide⟩
   ·split at h
    ·rename_i e; cases h; exact ⟨e,by decide,by decide⟩
    ·cases h
theorem attrO_attrB {a:AttrT} (h0:32 ∉ a.name) (h1:1≤a.ty) (h2:a.ty≤4):attrO (attrB a)=some a:=by
 have e1:Lib.cut (attrB a) [32]=(a.name,wordT a.ty,true):=by
  have:=cutT_at (c:=32) (t:=[]) (b:=wordT a.ty) h0
  simpa [attrB] using this
 unfold attrO
 rw [e1]
 simp only
 rw [tyO_word h1 h2]
theorem wordT_ne {t:Int} (h1:1≤t) (h2:t≤4):wordT t ≠ []:=by
 obtain rfl | rfl | rfl | rfl:t=1 ∨ t=2 ∨ t=3 ∨ t=4:=by omega
 all_goals decide
theorem cutT_false {s sep:List UInt8} (h:(Lib.cut s sep).2.2=false):(Lib.cut s sep).2.1=[]:=by
 unfold Lib.cut at *
 split at h
 ·cases h
 ·rename_i hn; rw [if_neg hn]
theorem attrO_some {s:List UInt8} {a:AttrT} (h:attrO s=some a):attrB a=s:=by
 unfold attrO at h
 split at h
 ·rename_i t ht
  cases h
  obtain ⟨k1,k2,k3⟩:=tyO_some ht
  cases hb:(Lib.cut s [32]).2.2 with
  | true =>
   have k:=cutT_true hb
   unfold attrB
   simp only
   rw [k1]
   generalize Lib.cut s [32]=p at k
   rw [k]
   simp
  | false =>
   rw [cutT_false hb] at k1
   exact absurd k1 (wordT_ne k2 k3)
 ·cases h
def valO (s:List UInt8):Option Va:=if rightV (readM s)=true then some (readM s) else none
theorem valO_print {v:Va} (h:rightV v=true):valO (printV v)=some v:=by
 unfold valO
 rw [readM_right h,if_pos h]
theorem valO_some {s:List UInt8} {v:Va} (h:valO s=some v):printV v=s∧rightV v=true:=by
 unfold valO at h
 split at h
 ·rename_i hr
  cases h
  exact ⟨readM_print hr,hr⟩
 ·cases h
def flip39 (q:Bool) (x:UInt8):Bool:=if x=39 then !q else q
def valsF (acc:List Va) (cur:List UInt8) (q:Bool):List UInt8→Option (List Va)
 | [] => match valO cur with
  | some v => some (acc ++ [v])
  | none => none
 | x :: r =>
  if flip39 q x=true ∨ x ≠ 44 then valsF acc (cur ++ [x]) (flip39 q x) r
  else match valO cur with
   | none => none
   | some v => if r.head? = some 32 then valsF (acc ++ [v]) [] false (r.drop 1) else none
termination_by l => l.length
decreasing_by all_goals (simp_wf; try omega)
def Sc:Bool→List UInt8→Prop
 | q,[] => q=false
 | q,x :: r => (flip39 q x=true ∨ x ≠ 44)∧Sc (flip39 q x) r
theorem valsF_scan:∀ {t:List UInt8} {q:Bool} (acc:List Va) (cur s:List UInt8),Sc q t→valsF acc cur q (t ++ s)=valsF acc (cur ++ t) false s
 | [],q,acc,cur,s,h => by
  simp only [Sc] at h
  subst h
  simp
 | x :: t,q,acc,cur,s,h => by
  obtain ⟨h1,h2⟩:=h
  rw [List.cons_append,valsF,if_pos h1,valsF_scan acc (cur ++ [x]) s h2]
  simp
theorem sc_plain:∀ {t:List UInt8},(∀ c ∈ t,c ≠ 39∧c ≠ 44)→Sc false t
 | [],_ => rfl
 | x :: t,h => by
  have hx:=h x (by simp)
  have hf:flip39 false x=false:=by unfold flip39; rw [if_neg hx.1]
  refine ⟨.inr hx.2,?_⟩
  rw [hf]
  exact sc_plain fun c hc => h c (List.mem_cons_of_mem _ hc)
theorem sc_dbl:∀ (s:List UInt8),Sc true (dbl s ++ [39])
 | [] => ⟨.inr (by decide),rfl⟩
 | c :: s => by
  rw [dbl]
  split
  ·exact ⟨.inr (by decide),.inl rfl,sc_dbl s⟩
  ·rename_i h
   have hf:flip39 true c=true:=by unfold flip39; rw [if_neg h]
   rw [List.cons_append]
   refine ⟨.inl hf,?_⟩
   rw [hf]
   exact sc_dbl s
theorem dec_chars {n:Nat} {c:UInt8} (h:c ∈ dec n):48≤c.toNat∧c.toNat≤57:=(isD_iff c).1 (List.all_eq_true.1 (dec_parts n).2.2.1 c h)
theorem ratS_chars {q:Rat} {c:UInt8} (h:c ∈ ratS q):c=45 ∨ c=47 ∨ (48≤c.toNat∧c.toNat≤57):=by
 unfold ratS at h
 rcases List.mem_append.1 h with h | h
 ·rcases List.mem_append.1 h with h | h
  ·split at h
   ·simp only [List.mem_singleton] at h; exact .inl h
   ·cases h
  ·exact .inr (.inr (dec_chars h))
 ·split at h
  ·cases h
  ·rcases List.mem_cons.1 h with h | h
   ·exact .inr (.inl h)
   ·exact .inr (.inr (dec_chars h))
theorem toNat_ne {a b:UInt8} (h:a.toNat ≠ b.toNat):a ≠ b:=fun e => h (by rw [e])
theorem sc_print {v:Va} (h:rightV v=true):Sc false (printV v):=by
 rcases right_cases h with ⟨r,h1,h2,rfl⟩ | ⟨b,rfl⟩ | ⟨q,hq,rfl⟩ | ⟨s,h1,h2,rfl⟩
 ·rw [print_miss]
  refine sc_plain fun c hc => ?_
  rcases List.mem_cons.1 hc with rfl | hc
  ·decide
  ·have:=dec_chars hc
   exact ⟨toNat_ne (by show c.toNat ≠ 39; omega),toNat_ne (by show c.toNat ≠ 44; omega)⟩
 ·rw [print_bool]
  refine sc_plain fun c hc => ?_
  cases b
  ·simp only [Bool.false_eq_true,if_false,List.mem_cons,List.not_mem_nil,or_false] at hc
   rcases hc with rfl | rfl | rfl | rfl | rfl <;> decide
  ·simp only [if_true,List.mem_cons,List.not_mem_nil,or_false] at hc
   rcases hc with rfl | rfl | rfl | rfl <;> decide
 ·rw [print_rat]
  refine sc_plain fun c hc => ?_
  rcases ratS_chars hc with rfl | rfl | hc
  ·decide
  ·decide
  ·exact ⟨toNat_ne (by show c.toNat ≠ 39; omega),toNat_ne (by show c.toNat ≠ 44; omega)⟩
 ·rw [print_text]
  exact ⟨.inr (by decide),sc_dbl s⟩
theorem valsF_vaS:∀ {l:List Va} (acc:List Va),l ≠ []→(∀ v ∈ l,rightV v=true)→valsF acc [] false (vaS l)=some (acc ++ l)
 | [],_,h,_ => absurd rfl h
 | [v],acc,_,h => by
  have hv:=h v (by simp)
  have:=valsF_scan acc [] [] (sc_print hv)
  rw [List.append_nil,List.nil_append] at this
  rw [vaS,this,valsF,valO_print hv]
 | v :: u :: l,acc,_,h => by
  have hv:=h v (by simp)
  rw [vaS_cons v (by simp),valsF_scan acc [] _ (sc_print hv),List.nil_append,valsF,if_neg (by decide),valO_print hv]
  simp only
  rw [List.head?_cons,if_pos rfl]
  show valsF (acc ++ [v]) [] false (vaS (u :: l))=_
  rw [valsF_vaS (acc ++ [v]) (by simp) (fun x hx => h x (List.mem_cons_of_mem _ hx))]
  simp
theorem valsF_some (n:Nat):∀ {s:List UInt8} {acc:List Va} {cur:List UInt8} {q:Bool} {vs:List Va},s.length≤n→valsF acc cur q s=some vs→∃ ws,vs=acc ++ ws∧ws ≠ []∧vaS ws=cur ++ s∧∀ v ∈ ws,rightV v=true:=by
 induction n with
 | zero =>
  intro s acc cur q vs hl h
  obtain rfl:s=[]:=List.length_eq_zero_iff.1 (by omega)
  rw [valsF] at h
  split at h
  ·rename_i v hv
   cases h
   obtain ⟨k1,k2⟩:=valO_some hv
   exact ⟨[v],rfl,by simp,by rw [vaS,k1,List.append_nil],fun x hx => by simp only [List.mem_singleton] at hx; subst hx; exact k2⟩
  ·cases h
 | succ n ih =>
  intro s acc cur q vs hl h
  cases s with
  | nil =>
   rw [valsF] at h
   split at h
   ·rename_i v hv
    cases h
    obtain ⟨k1,k2⟩:=valO_some hv
    exact ⟨[v],rfl,by simp,by rw [vaS,k1,List.append_nil],fun x hx => by simp only [List.mem_singleton] at hx; subst hx; exact k2⟩
   ·cases h
  | cons x r =>
   rw [valsF] at h
   rw [List.length_cons] at hl
   split at h
   ·obtain ⟨ws,e1,e2,e3,e4⟩:=ih (by omega) h
    exact ⟨ws,e1,e2,by rw [e3]; simp,e4⟩
   ·rename_i hx
    have hx44:x=44:=Classical.byContradiction fun hn => hx (.inr hn)
    split at h
    ·cases h
    ·rename_i v hv
     split at h
     ·rename_i hh
      obtain ⟨r',rfl⟩:∃ r',r=32 :: r':=by
       cases r with
       | nil => cases hh
       | cons a b => simp only [List.head?_cons,Option.some.injEq] at hh; exact ⟨b,by rw [hh]⟩
      rw [List.drop_succ_cons,List.drop_zero] at h
      rw [List.length_cons] at hl
      obtain ⟨ws,e1,e2,e3,e4⟩:=ih (by omega) h
      obtain ⟨k1,k2⟩:=valO_some hv
      refine ⟨v :: ws,by rw [e1]; simp,by simp,?_,fun y hy => ?_⟩
      ·rw [vaS_cons v e2,e3,k1,hx44]; simp
      ·rcases List.mem_cons.1 hy with rfl | hy
       ·exact k2
       ·exact e4 y hy
     ·cases h
def intsO:List (List UInt8)→Option (List Int)
 | [] => some []
 | s :: r => match intO s,intsO r with
  | some n,some l => some (n :: l)
  | _,_ => none
theorem intsO_map:∀ {l:List Int},(∀ n ∈ l,-9223372036854775808≤n∧n≤9223372036854775807)→intsO (l.map itS)=some l
 | [],_ => rfl
 | n :: l,h => by
  have hn:=h n (by simp)
  rw [List.map_cons,intsO,intO_itS hn.1 hn.2,intsO_map (fun x hx => h x (List.mem_cons_of_mem _ hx))]
theorem intsO_some:∀ {s:List (List UInt8)} {l:List Int},intsO s=some l→l.map itS=s
 | [],l,h => by cases h; rfl
 | s :: r,l,h => by
  rw [intsO] at h
  split at h
  ·rename_i n t hn ht
   cases h
   rw [List.map_cons,(intO_some hn).1,intsO_some ht]
  ·cases h
def cellO (s:List UInt8):Option CellT:=match intsO (splitL 32 (Lib.cut s [58,32]).1),valsF [] [] false (Lib.cut s [58,32]).2.1 with
 | some c,some v => if (Lib.cut s [58,32]).2.2=true then some ⟨c,v⟩ else none
 | _,_ => none
theorem join_not {c d:UInt8} (hd:d ≠ c):∀ {l:List (List UInt8)},(∀ p ∈ l,d ∉ p)→d ∉ joinL c l
 | [],_ => by simp [joinL]
 | [p],h => by rw [joinL]; exact h p (by simp)
 | p :: q :: l,h => by
  rw [join_cons c p (by simp)]
  intro hm
  rcases List.mem_append.1 hm with hm | hm
  ·exact h p (by simp) hm
  ·rcases List.mem_cons.1 hm with hm | hm
   ·exact hd hm
   ·exact join_not hd (fun x hx => h x (List.mem_cons_of_mem _ hx)) hm
theorem itS_list_not {l:List Int} {c:UInt8} (h1:c ≠ 45) (h2:isD c=false):∀ p ∈ l.map itS,c ∉ p:=fun p hp => by
 obtain ⟨n,-,rfl⟩:=List.mem_map.1 hp
 exact itS_not h1 h2
theorem cellO_cellB {c:CellT} (h0:c.co ≠ []) (h1:∀ n ∈ c.co,-9223372036854775808≤n∧n≤9223372036854775807) (h2:c.vals ≠ []) (h3:∀ v ∈ c.vals,rightV v=true):cellO (cellB c)=some c:=by
 have e1:Lib.cut (cellB c) [58,32]=(joinL 32 (c.co.map itS),vaS c.vals,true):=by
  have:=cutT_at (c:=58) (t:=[32]) (a:=joinL 32 (c.co.map itS)) (b:=vaS c.vals) (join_not (by decide) (itS_list_not (by decide) (by decide)))
  simpa [cellB] using this
 unfold cellO
 rw [e1]
 simp only
 rw [splitL_join 32 _ (by simpa using h0) (itS_list_not (by decide) (by decide)),intsO_map h1,valsF_vaS [] h2 h3]
 simp
theorem cellO_some {s:List UInt8} {c:CellT} (h:cellO s=some c):cellB c=s:=by
 unfold cellO at h
 split at h
 ·rename_i co va h1 h2
  split at h
  ·rename_i hc
   cases h
   have k:=cutT_true hc
   have k1:=intsO_some h1
   obtain ⟨ws,e1,-,e3,-⟩:=valsF_some _ (Nat.le_refl _) h2
   rw [List.nil_append] at e1 e3
   subst e1
   unfold cellB
   simp only
   rw [k1,e3,join_splitL]
   generalize Lib.cut s [58,32]=p at k
   rw [k]
   simp
  ·cases h
 ·cases h
end Go.Proofs.YtdbnebhehiiakaaGreatDoor
namespace Go.Proofs.YtdbnebhehiiakaaGreatDoor
structure GoodT (x:ArrT):Prop where
 d0:x.dims ≠ []
 a0:x.attrs ≠ []
 dn:∀ d ∈ x.dims,(∀ c ∈ d.name,furtherB c=true)∧d.name.length≤12
 db:∀ d ∈ x.dims,-1073741824≤d.lo∧d.lo≤1073741824∧d.lo≤d.hi∧d.hi≤1073741825
 an:∀ a ∈ x.attrs,(∀ c ∈ a.name,furtherB c=true)∧a.name.length≤12
 at':∀ a ∈ x.attrs,1≤a.ty∧a.ty≤4
 c0:∀ c ∈ x.cells,c.co ≠ []∧c.vals ≠ []
 ci:∀ c ∈ x.cells,∀ n ∈ c.co,-1073741824≤n∧n≤1073741824
 cv:∀ c ∈ x.cells,∀ v ∈ c.vals,rightV v=true
 dl:x.dims.length≤4
 al:x.attrs.length≤6
 cl:x.cells.length≤4096
 cc:∀ c ∈ x.cells,c.co.length≤4∧c.vals.length≤6
theorem nameB_good {s:List UInt8} (h:nameB s=true):(∀ c ∈ s,furtherB c=true)∧s.length≤12:=by
 rw [nameB_eq] at h
 simp only [Bool.and_eq_true,decide_eq_true_eq] at h
 exact ⟨List.all_eq_true.1 h.2,h.1.1.2⟩
theorem dimsT_good:∀ {met:List (List UInt8)} {d:List DimT},dimsL met d=0→∀ x ∈ d,nameB x.name=true∧boundsB x=true
 | _,[],_,x,hx => by cases hx
 | met,y :: r,h,x,hx => by
  rw [dimsL] at h
  split at h
  ·cases h
  ·rename_i h1
   split at h
   ·cases h
   ·rename_i h2
    rcases List.mem_cons.1 hx with rfl | hx
    ·refine ⟨?_,by simpa using h2⟩
     cases hn:nameB x.name
     ·exact absurd (.inl hn) h1
     ·rfl
    ·exact dimsT_good h x hx
theorem attrsL_good:∀ {met:List (List UInt8)} {a:List AttrT},attrsL met a=0→∀ x ∈ a,nameB x.name=true∧1≤x.ty∧x.ty≤4
 | _,[],_,x,hx => by cases hx
 | met,y :: r,h,x,hx => by
  rw [attrsL] at h
  split at h
  ·cases h
  ·rename_i h1
   split at h
   ·cases h
   ·rename_i h2
    rcases List.mem_cons.1 hx with rfl | hx
    ·refine ⟨?_,by omega⟩
     cases hn:nameB x.name
     ·exact absurd (.inl hn) h1
     ·rfl
    ·exact attrsL_good h x hx
theorem ofT_good:∀ {d:List DimT} {c:List Int},c.length=d.length→ofL d c=true→(∀ x ∈ d,-1073741824≤x.lo)→∀ n ∈ c,-1073741824≤n∧n≤1073741824
 | [],[],_,_,_,n,hn => by cases hn
 | [],_ :: _,h,_,_,_,_ => by simp at h
 | _ :: _,[],h,_,_,_,hn => by cases hn
 | x :: d,m :: c,h,ho,hd,n,hn => by
  rw [ofL] at ho
  split at ho
  ·cases ho
  ·rename_i h1
   rcases List.mem_cons.1 hn with rfl | hn
   ·have h2:=hd x (by simp)
    have h3:x.last≤1073741824:=by unfold DimT.last; split <;> omega
    omega
   ·exact ofT_good (by simpa using h) ho (fun y hy => hd y (List.mem_cons_of_mem _ hy)) n hn
theorem fitsL_good:∀ {a:List AttrT} {v:List Va},v.length=a.length→fitsL a v=true→∀ x ∈ v,rightV x=true
 | [],[],_,_,n,hn => by cases hn
 | [],_ :: _,h,_,_,_ => by simp at h
 | _ :: _,[],h,_,_,hn => by cases hn
 | t :: a,y :: v,h,ho,x,hx => by
  rw [fitsL] at ho
  split at ho
  ·cases ho
  ·rename_i h1
   rcases List.mem_cons.1 hx with rfl | hx
   ·unfold fitsV at h1
    cases hr:rightV x
    ·rw [hr] at h1; simp at h1
    ·rfl
   ·exact fitsL_good (by simpa using h) ho x hx
theorem cellsL_good {d:List DimT} {a:List AttrT}:∀ (b:Option CellT) (l:List CellT),cellsL d a b l=0→∀ c ∈ l,cellE d a c=0
 | _,[],_,c,hc => by cases hc
 | none,x :: r,h,c,hc => by
  rw [cellsL] at h
  split at h
  ·rename_i h1; exact absurd h h1
  ·rename_i h1
   rcases List.mem_cons.1 hc with rfl | hc
   ·exact Classical.byContradiction h1
   ·exact cellsL_good _ r h c hc
 | some b,x :: r,h,c,hc => by
  rw [cellsL] at h
  split at h
  ·rename_i h1; exact absurd h h1
  ·rename_i h1
   split at h
   ·cases h
   ·split at h
    ·cases h
    ·rcases List.mem_cons.1 hc with rfl | hc
     ·exact Classical.byContradiction h1
     ·exact cellsL_good _ r h c hc
theorem cellE_good {d:List DimT} {a:List AttrT} {c:CellT} (h:cellE d a c=0):c.co.length=d.length∧c.vals.length=a.length∧ofL d c.co=true∧fitsL a c.vals=true:=by
 unfold cellE at h
 split at h
 ·cases h
 ·rename_i h1
  split at h
  ·cases h
  ·rename_i h2
   split at h
   ·cases h
   ·rename_i h3
    exact ⟨by omega,by omega,by simpa using h2,by simpa using h3⟩
theorem check_goodT {x:ArrT} (h:checkE x=0):GoodT x:=by
 unfold checkE at h
 split at h
 ·rename_i h1; exact absurd h h1
 ·rename_i h1
  have hs:schemaE x.dims x.attrs=0:=Classical.byContradiction h1
  split at h
  ·cases h
  ·rename_i h2
   have hc:=cellsL_good _ _ h
   unfold schemaE at hs
   split at hs
   ·rename_i h3; exact absurd hs h3
   ·rename_i h3
    have hd:dimsE x.dims=0:=Classical.byContradiction h3
    split at hs
    ·cases hs
    ·rename_i h4
     have ha:=attrsL_good hs
     unfold dimsE at hd
     split at hd
     ·cases hd
     ·rename_i h5
      have hdd:=dimsT_good hd
      have hb:∀ d ∈ x.dims,-1073741824≤d.lo∧d.lo≤1073741824∧d.lo≤d.hi∧d.hi≤1073741825:=fun d hm => by
       have:=(hdd d hm).2
       unfold boundsB at this
       simp only [Bool.and_eq_true,decide_eq_true_eq] at this
       omega
      refine ⟨fun e => by rw [e] at h5; simp at h5,fun e => by rw [e] at h4; simp at h4,fun d hm => nameB_good (hdd d hm).1,hb,fun a hm => nameB_good (ha a hm).1,fun a hm => (ha a hm).2,fun c hm => ?_,fun c hm => ?_,fun c hm => ?_,by omega,by omega,by omega,fun c hm => ?_⟩
      ·obtain ⟨k1,k2,-⟩:=cellE_good (hc c hm)
       exact ⟨fun e => by rw [e] at k1; simp at k1; omega,fun e => by rw [e] at k2; simp at k2; omega⟩
      ·obtain ⟨k1,-,k3,-⟩:=cellE_good (hc c hm)
       exact ofT_good k1 k3 (fun d hd => (hb d hd).1)
      ·obtain ⟨-,k2,-,k4⟩:=cellE_good (hc c hm)
       exact fitsL_good k2 k4
      ·obtain ⟨k1,k2,-⟩:=cellE_good (hc c hm)
       omega
theorem further_not {s:List UInt8} {c:UInt8} (h:∀ x ∈ s,furtherB x=true) (hc:furtherB c=false):c ∉ s:=fun hm => by
 rw [h c hm] at hc; cases hc
def dimP:List UInt8:=[100,105,109,32]
def attrP:List UInt8:=[97,116,116,114,32]
def parseF (x:ArrT):List (List UInt8)→Option ArrT
 | [] => some x
 | l :: r =>
  if Lib.hasPrefix l dimP=true∧x.attrs=[] then match dimO (Lib.trimPrefix l dimP) with
   | some d => parseF ⟨x.dims ++ [d],x.attrs,x.cells⟩ r
   | none => none
  else if Lib.hasPrefix l attrP=true∧x.cells=[] then match attrO (Lib.trimPrefix l attrP) with
   | some a => parseF ⟨x.dims,x.attrs ++ [a],x.cells⟩ r
   | none => none
  else match cellO l with
   | some c => parseF ⟨x.dims,x.attrs,x.cells ++ [c]⟩ r
   | none => none
def parseE (s:List UInt8):Option ArrT:=if Lib.hasSuffix s [10]=true then parseF ⟨[],[],[]⟩ (splitL 10 (Lib.trimSuffix s [10])) else none
theorem pre_app (p r:List UInt8):Lib.hasPrefix (p ++ r) p=true∧Lib.trimPrefix (p ++ r) p=r:=by
 have h:Lib.hasPrefix (p ++ r) p=true:=by unfold Lib.hasPrefix; simp
 refine ⟨h,?_⟩
 unfold Lib.trimPrefix
 rw [if_pos h,List.drop_left]
theorem pre_eq {l p:List UInt8} (h:Lib.hasPrefix l p=true):l=p ++ Lib.trimPrefix l p:=by
 unfold Lib.trimPrefix
 rw [if_pos h]
 unfold Lib.hasPrefix at h
 rw [List.isPrefixOf_iff_prefix] at h
 obtain ⟨u,hu⟩:=h
 rw [← hu,List.drop_left]
theorem parseF_dims:∀ (d e:List DimT) (r:List (List UInt8)),(∀ x ∈ d,(∀ c ∈ x.name,furtherB c=true) ∧ -1073741824≤x.lo∧x.lo≤1073741824∧x.lo≤x.hi∧x.hi≤1073741825)→parseF ⟨e,[],[]⟩ (d.map dimL ++ r)=parseF ⟨e ++ d,[],[]⟩ r
 | [],e,r,_ => by simp
 | x :: d,e,r,h => by
  obtain ⟨h1,h2,h3,h4,h5⟩:=h x (by simp)
  obtain ⟨k1,k2⟩:=pre_app dimP (dimB x)
  have hx:dimL x=dimP ++ dimB x:=rfl
  rw [List.map_cons,List.cons_append,parseF,hx,if_pos ⟨k1,rfl⟩,k2,dimO_dimB (further_not h1 (by decide)) (by omega) (by omega) (by omega) h5]
  simp only
  rw [parseF_dims d (e ++ [x]) r (fun y hy => h y (List.mem_cons_of_mem _ hy))]
  simp
theorem parseF_attrs:∀ (a e:List AttrT) (D:List DimT) (r:List (List UInt8)),(∀ x ∈ a,(∀ c ∈ x.name,furtherB c=true)∧1≤x.ty∧x.ty≤4)→parseF ⟨D,e,[]⟩ (a.map attrL ++ r)=parseF ⟨D,e ++ a,[]⟩ r
 | [],e,D,r,_ => by simp
 | x :: a,e,D,r,h => by
  obtain ⟨h1,h2,h3⟩:=h x (by simp)
  obtain ⟨k1,k2⟩:=pre_app attrP (attrB x)
  have hx:attrL x=attrP ++ attrB x:=rfl
  have hn:Lib.hasPrefix (attrP ++ attrB x) dimP=false:=rfl
  rw [List.map_cons,List.cons_append,parseF,hx,if_neg (by rw [hn]; simp),if_pos ⟨k1,rfl⟩,k2,attrO_attrB (further_not h1 (by decide)) h2 h3]
  simp only
  rw [parseF_attrs a (e ++ [x]) D r (fun y hy => h y (List.mem_cons_of_mem _ hy))]
  simp
theorem itS_head (n:Int):∃ c r,itS n=c :: r∧c.toNat<60:=by
 unfold itS
 split
 ·exact ⟨_,_,rfl,by decide⟩
 ·obtain ⟨c,r,h,hc⟩:=dec_first n.natAbs
  rw [isD_iff] at hc
  exact ⟨c,r,h,by omega⟩
theorem cellB_head {c:CellT} (h:c.co ≠ []):∃ y r,cellB c=y :: r∧y.toNat<60:=by
 obtain ⟨co,vs⟩:=c
 cases co with
 | nil => exact absurd rfl h
 | cons n l =>
  obtain ⟨y,r,e,hy⟩:=itS_head n
  unfold cellB
  simp only [List.map_cons]
  cases hl:l.map itS with
  | nil => exact ⟨y,_,by rw [joinL,e]; rfl,hy⟩
  | cons p q => exact ⟨y,_,by rw [join_cons 32 _ (by simp),e]; rfl,hy⟩
theorem parseF_cells:∀ (l e:List CellT) (D:List DimT) (A:List AttrT),(∀ c ∈ l,c.co ≠ []∧c.vals ≠ []∧(∀ n ∈ c.co,-1073741824≤n∧n≤1073741824)∧∀ v ∈ c.vals,rightV v=true)→parseF ⟨D,A,e⟩ (l.map cellB)=some ⟨D,A,e ++ l⟩
 | [],e,D,A,_ => by simp [parseF]
 | c :: l,e,D,A,h => by
  obtain ⟨h1,h2,h3,h4⟩:=h c (by simp)
  obtain ⟨y,r,hy,hl⟩:=cellB_head h1
  have n1:Lib.hasPrefix (cellB c) dimP=false:=by
   rw [hy]
   have:¬ (100:UInt8)=y:=fun e => by rw [← e] at hl; simp at hl
   simp [Lib.hasPrefix,dimP,List.isPrefixOf,this]
  have n2:Lib.hasPrefix (cellB c) attrP=false:=by
   rw [hy]
   have:¬ (97:UInt8)=y:=fun e => by rw [← e] at hl; simp at hl
   simp [Lib.hasPrefix,attrP,List.isPrefixOf,this]
  rw [List.map_cons,parseF,if_neg (by rw [n1]; simp),if_neg (by rw [n2]; simp),cellO_cellB h1 (fun n hn => by have:=h3 n hn; omega) h2 h4]
  simp only
  rw [parseF_cells l (e ++ [c]) D A (fun y hy => h y (List.mem_cons_of_mem _ hy))]
  simp
theorem vaS_not {l:List Va} {c:UInt8} (h:∀ v ∈ l,c ∉ printV v) (h1:c ≠ 44) (h2:c ≠ 32):c ∉ vaS l:=by
 induction l with
 | nil => simp [vaS]
 | cons v l ih =>
  cases l with
  | nil => rw [vaS]; exact h v (by simp)
  | cons u l =>
   rw [vaS_cons v (by simp)]
   intro hm
   rcases List.mem_append.1 hm with hm | hm
   ·exact h v (by simp) hm
   ·rcases List.mem_cons.1 hm with hm | hm
    ·exact h1 hm
    ·rcases List.mem_cons.1 hm with hm | hm
     ·exact h2 hm
     ·exact ih (fun x hx => h x (List.mem_cons_of_mem _ hx)) hm
theorem dbl_mem {s:List UInt8} {c:UInt8} (h:c ∈ dbl s):c=39 ∨ c ∈ s:=by
 induction s with
 | nil => cases h
 | cons x s ih =>
  rw [dbl] at h
  split at h
  ·rcases List.mem_cons.1 h with h | h
   ·exact .inl h
   ·rcases List.mem_cons.1 h with h | h
    ·exact .inl h
    ·rcases ih h with h | h
     ·exact .inl h
     ·exact .inr (List.mem_cons_of_mem _ h)
  ·rcases List.mem_cons.1 h with h | h
   ·exact .inr (by rw [h]; simp)
   ·rcases ih h with h | h
    ·exact .inl h
    ·exact .inr (List.mem_cons_of_mem _ h)
theorem print_ge {v:Va} (h:rightV v=true) {c:UInt8} (hc:c ∈ printV v):32≤c.toNat:=by
 rcases right_cases h with ⟨r,h1,h2,rfl⟩ | ⟨b,rfl⟩ | ⟨q,hq,rfl⟩ | ⟨s,h1,h2,rfl⟩
 ·rw [print_miss] at hc
  rcases List.mem_cons.1 hc with rfl | hc
  ·decide
  ·have:=dec_chars hc; omega
 ·rw [print_bool] at hc
  cases b
  ·simp only [Bool.false_eq_true,if_false,List.mem_cons,List.not_mem_nil,or_false] at hc
   rcases hc with rfl | rfl | rfl | rfl | rfl <;> decide
  ·simp only [if_true,List.mem_cons,List.not_mem_nil,or_false] at hc
   rcases hc with rfl | rfl | rfl | rfl <;> decide
 ·rw [print_rat] at hc
  rcases ratS_chars hc with rfl | rfl | hc
  ·decide
  ·decide
  ·omega
 ·rw [print_text] at hc
  rcases List.mem_append.1 hc with hc | hc
  ·rcases List.mem_cons.1 hc with rfl | hc
   ·decide
   ·rcases dbl_mem hc with rfl | hc
    ·decide
    ·have:=(okB_iff c).1 (List.all_eq_true.1 h2 c hc); omega
  ·simp only [List.mem_singleton] at hc
   subst hc; decide
theorem lines_not {x:ArrT} (h:GoodT x):∀ p ∈ linesA x,10 ∉ p:=fun p hp => by
 unfold linesA at hp
 rcases List.mem_append.1 hp with hp | hp
 ·rcases List.mem_append.1 hp with hp | hp
  ·obtain ⟨d,hd,rfl⟩:=List.mem_map.1 hp
   have h1:=further_not (h.dn d hd).1 (c:=10) (by decide)
   have h2:(10:UInt8) ∉ itS d.lo:=itS_not (by decide) (by decide)
   have h3:(10:UInt8) ∉ hiS d.hi:=hiS_not (by decide) (by decide) (by decide)
   simp only [dimL,dimB,List.mem_cons,List.mem_append,not_or]
   exact ⟨by decide,by decide,by decide,by decide,h1,by decide,h2,by decide,h3⟩
  ·obtain ⟨a,ha,rfl⟩:=List.mem_map.1 hp
   have h1:=further_not (h.an a ha).1 (c:=10) (by decide)
   have h2:=wordT_not a.ty 10 (by decide)
   simp only [attrL,attrB,List.mem_cons,List.mem_append,not_or]
   exact ⟨by decide,by decide,by decide,by decide,by decide,h1,by decide,h2⟩
 ·obtain ⟨c,hc,rfl⟩:=List.mem_map.1 hp
  have h1:(10:UInt8) ∉ joinL 32 (c.co.map itS):=join_not (by decide) (itS_list_not (by decide) (by decide))
  have h2:(10:UInt8) ∉ vaS c.vals:=vaS_not (fun v hv hm => by have:=print_ge (h.cv c hc v hv) hm; simp at this) (by decide) (by decide)
  simp only [cellB,List.mem_cons,List.mem_append,not_or]
  exact ⟨h1,by decide,by decide,h2⟩
theorem suf_app (p r:List UInt8):Lib.hasSuffix (r ++ p) p=true∧Lib.trimSuffix (r ++ p) p=r:=by
 have h:Lib.hasSuffix (r ++ p) p=true:=by unfold Lib.hasSuffix; rw [List.isSuffixOf_iff_suffix]; exact List.suffix_append _ _
 refine ⟨h,?_⟩
 unfold Lib.trimSuffix
 rw [if_pos h]
 simp
theorem suf_eq {l p:List UInt8} (h:Lib.hasSuffix l p=true):l=Lib.trimSuffix l p ++ p:=by
 unfold Lib.trimSuffix
 rw [if_pos h]
 unfold Lib.hasSuffix at h
 rw [List.isSuffixOf_iff_suffix] at h
 obtain ⟨u,hu⟩:=h
 rw [← hu]
 simp
theorem lines_ne {x:ArrT} (h:x.dims ≠ []):linesA x ≠ []:=by
 unfold linesA
 cases hd:x.dims with
 | nil => exact absurd hd h
 | cons d r => simp
theorem parseE_prA {x:ArrT} (h:GoodT x):parseE (prA x)=some x:=by
 have hl:=lines_ne h.d0
 obtain ⟨k1,k2⟩:=suf_app [10] (joinL 10 (linesA x))
 unfold parseE prA
 rw [prA_join _ hl,if_pos k1,k2,splitL_join 10 _ hl (lines_not h)]
 unfold linesA
 rw [List.append_assoc,parseF_dims x.dims [] _ (fun d hd => ⟨(h.dn d hd).1,h.db d hd⟩),parseF_attrs x.attrs [] _ _ (fun a ha => ⟨(h.an a ha).1,h.at' a ha⟩),parseF_cells x.cells [] _ _ (fun c hc => ⟨(h.c0 c hc).1,(h.c0 c hc).2,h.ci c hc,h.cv c hc⟩)]
 rfl
theorem parseF_late:∀ {ls:List (List UInt8)} {x y:ArrT},parseF x ls=some y→x.attrs=[]→x.cells ≠ []→y.attrs=[]
 | [],x,y,h,h1,_ => by
  rw [parseF] at h
  cases h
  exact h1
 | l :: r,x,y,h,h1,h2 => by
  rw [parseF] at h
  split at h
  ·split at h
   ·exact parseF_late h h1 h2
   ·cases h
  ·split at h
   ·rename_i h3; exact absurd h3.2 h2
   ·split at h
    ·exact parseF_late h h1 (by simp)
    ·cases h
theorem parseF_lines:∀ {ls:List (List UInt8)} {x y:ArrT},parseF x ls=some y→y.attrs ≠ []→(x.attrs=[]→x.cells=[])→linesA y=linesA x ++ ls
 | [],x,y,h,_,_ => by
  rw [parseF] at h
  cases h
  simp
 | l :: r,x,y,h,h1,h2 => by
  rw [parseF] at h
  split at h
  ·rename_i hp
   split at h
   ·rename_i d hd
    have hc:=h2 hp.2
    have ih:=parseF_lines h h1 (fun _ => hc)
    rw [ih]
    have hl:dimL d=l:=by
     show dimP ++ dimB d=l
     rw [dimO_some hd]
     exact (pre_eq hp.1).symm
    unfold linesA
    simp only
    rw [hp.2,hc,← hl]
    simp
   ·cases h
  ·split at h
   ·rename_i hp
    split at h
    ·rename_i a ha
     have ih:=parseF_lines h h1 (fun _ => hp.2)
     rw [ih]
     have hl:attrL a=l:=by
      show attrP ++ attrB a=l
      rw [attrO_some ha]
      exact (pre_eq hp.1).symm
     unfold linesA
     simp only
     rw [hp.2,← hl]
     simp
    ·cases h
   ·split at h
    ·rename_i c hc
     by_cases ha:x.attrs=[]
     ·exact absurd (parseF_late h ha (by simp)) h1
     ·have ih:=parseF_lines h h1 (fun e => absurd e ha)
      rw [ih,← cellO_some hc]
      unfold linesA
      simp
    ·cases h
theorem parseE_some {s:List UInt8} {x:ArrT} (h:parseE s=some x) (ha:x.attrs ≠ []):prA x=s:=by
 unfold parseE at h
 split at h
 ·rename_i hs
  have hl:=parseF_lines h ha (fun _ => rfl)
  have e0:linesA ⟨[],[],[]⟩=[]:=rfl
  rw [e0,List.nil_append] at hl
  obtain ⟨p,q,e⟩:=splitL_ne 10 (Lib.trimSuffix s [10])
  unfold prA
  rw [hl,prA_join _ (by rw [e]; simp),join_splitL]
  exact (suf_eq hs).symm
 ·cases h
end Go.Proofs.YtdbnebhehiiakaaGreatDoor
namespace Go.Proofs.YtdbnebhehiiakaaGreatDoor
def cutT (c:UInt8) (q:Bool) (acc:List UInt8):List UInt8→List (List UInt8)
 | [] => [acc]
 | x :: r => if flip39 q x=false∧x=c then acc :: cutT c (flip39 q x) [] r else cutT c (flip39 q x) (acc ++ [x]) r
def ScC (c:UInt8):Bool→List UInt8→Prop
 | q,[] => q=false
 | q,x :: r => (flip39 q x=true ∨ x ≠ c)∧ScC c (flip39 q x) r
theorem sc_c:∀ {t:List UInt8} {q:Bool},Sc q t→ScC 44 q t
 | [],_,h => h
 | _ :: _,_,h => ⟨h.1,sc_c h.2⟩
theorem cutT_scan {c:UInt8}:∀ {t:List UInt8} {q:Bool} (acc s:List UInt8),ScC c q t→cutT c q acc (t ++ s)=cutT c false (acc ++ t) s
 | [],q,acc,s,h => by
  simp only [ScC] at h
  subst h
  simp
 | x :: t,q,acc,s,h => by
  obtain ⟨h1,h2⟩:=h
  rw [List.cons_append,cutT,if_neg,cutT_scan (acc ++ [x]) s h2]
  ·simp
  ·rintro ⟨k1,k2⟩
   rcases h1 with h1 | h1
   ·rw [k1] at h1; cases h1
   ·exact h1 k2
theorem cutT_end {c:UInt8} {p:List UInt8} (h:ScC c false p):cutT c false [] p=[p]:=by
 have:=cutT_scan [] [] h
 rw [List.append_nil,List.nil_append] at this
 rw [this,cutT]
theorem cutT_app {c:UInt8} (hc:c ≠ 39) {p r:List UInt8} (h:ScC c false p):cutT c false [] (p ++ c :: r)=p :: cutT c false [] r:=by
 rw [cutT_scan [] _ h,List.nil_append,cutT]
 have hf:flip39 false c=false:=by unfold flip39; rw [if_neg hc]
 rw [hf,if_pos ⟨rfl,rfl⟩]
theorem cutT_join {c:UInt8} (hc:c ≠ 39):∀ {l:List (List UInt8)},l ≠ []→(∀ p ∈ l,ScC c false p)→cutT c false [] (joinL c l)=l
 | [],h,_ => absurd rfl h
 | [p],_,h => by rw [joinL,cutT_end (h p (by simp))]
 | p :: q :: l,_,h => by
  rw [join_cons c p (by simp),cutT_app hc (h p (by simp)),cutT_join hc (by simp) (fun x hx => h x (List.mem_cons_of_mem _ hx))]
theorem cutT_head (c:UInt8):∀ (s:List UInt8) (q:Bool) (acc:List UInt8),∃ t r,cutT c q acc s=(acc ++ t) :: r
 | [],q,acc => ⟨[],[],by simp [cutT]⟩
 | x :: s,q,acc => by
  rw [cutT]
  split
  ·exact ⟨[],_,by rw [List.append_nil]⟩
  ·obtain ⟨t,r,h⟩:=cutT_head c s (flip39 q x) (acc ++ [x])
   exact ⟨x :: t,r,by rw [h]; simp⟩
def endQ (q:Bool) (t:List UInt8):Bool:=t.foldl flip39 q
theorem endQ_app (q:Bool) (s t:List UInt8):endQ q (s ++ t)=endQ (endQ q s) t:=List.foldl_append
theorem sc_end:∀ {t:List UInt8} {q:Bool},Sc q t→endQ q t=false
 | [],_,h => h
 | x :: t,q,h => show endQ (flip39 q x) t=false from sc_end h.2
theorem end_plain:∀ {t:List UInt8} {q:Bool},39 ∉ t→endQ q t=q
 | [],_,_ => rfl
 | x :: t,q,h => by
  have hx:x ≠ 39:=fun e => h (by rw [e]; simp)
  have:flip39 q x=q:=by unfold flip39; rw [if_neg hx]
  show endQ (flip39 q x) t=q
  rw [this]
  exact end_plain fun hm => h (List.mem_cons_of_mem _ hm)
theorem scC_of {c:UInt8}:∀ {t:List UInt8} {q:Bool},c ∉ t→endQ q t=false→ScC c q t
 | [],_,_,h => h
 | x :: t,q,hn,h => ⟨.inr fun e => hn (by rw [e]; simp),scC_of (fun hm => hn (List.mem_cons_of_mem _ hm)) h⟩
theorem scC_plain {c:UInt8} {t:List UInt8} (h1:c ∉ t) (h2:39 ∉ t):ScC c false t:=scC_of h1 (end_plain h2)
def numL (n:Int):List UInt8→Int
 | [] => n
 | x :: r => numL (if isD x=true then 10 * n+((x.toNat:Int) - 48) else n) r
def numE (s:List UInt8):Int:=if s.head? = some 45 then - numL 0 (s.take 12) else numL 0 (s.take 12)
theorem numL_app:∀ (s t:List UInt8) (n:Int),numL n (s ++ t)=numL (numL n s) t
 | [],_,_ => rfl
 | x :: s,t,n => by rw [List.cons_append,numL,numL_app s t]; rfl
theorem numL_dec:∀ (u:Nat),numL 0 (dec u)=(u:Int):=by
 intro u
 induction u using Nat.strongRecOn with
 | _ u ih =>
  by_cases h:u<10
  ·rw [dec_small h,numL,if_pos (dchar_isD h),numL,dchar_toNat h]
   omega
  ·rw [dec_big (by omega),numL_app,ih (u / 10) (by omega),numL,if_pos (dchar_isD (by omega)),numL,dchar_toNat (by omega)]
   omega
theorem numE_itS {n:Int} (h1 : -1073741825≤n) (h2:n≤1073741825):numE (itS n)=n:=by
 have hl:(dec n.natAbs).length≤11:=dec_len_le _ 11 (by decide) (by omega)
 unfold numE itS
 by_cases h:n<0
 ·rw [if_pos h,List.head?_cons,if_pos rfl,List.take_of_length_le (by simp only [List.length_cons]; omega),numL,if_neg (by decide),numL_dec]
  omega
 ·rw [if_neg h,List.take_of_length_le (by omega),if_neg,numL_dec]
  ·omega
  ·obtain ⟨c,r,e,hc⟩:=dec_first n.natAbs
   rw [e,List.head?_cons]
   intro he
   rw [isD_iff] at hc
   injection he with he
   rw [he] at hc
   simp at hc
def valG (t:List UInt8):Va:=if rightV (readM t)=true then readM t else zeroV
def stripG:List UInt8→List UInt8
 | [] => []
 | x :: r => if x=58 ∨ x=32 then stripG r else x :: r
def cellG (s:List UInt8):CellT :=
 ⟨(cutT 32 false [] ((cutT 58 false [] s).headD [])).map numE,(cutT 44 false [] (s.drop ((cutT 58 false [] s).headD []).length)).map fun t => valG (stripG t)⟩
theorem print_first {v:Va} (h:rightV v=true):∃ c r,printV v=c :: r∧c ≠ 58∧c ≠ 32:=by
 rcases right_cases h with ⟨r,h1,h2,rfl⟩ | ⟨b,rfl⟩ | ⟨q,hq,rfl⟩ | ⟨s,h1,h2,rfl⟩
 ·exact ⟨_,_,print_miss r,by decide,by decide⟩
 ·rw [print_bool]
  cases b
  ·exact ⟨_,_,rfl,by decide,by decide⟩
  ·exact ⟨_,_,rfl,by decide,by decide⟩
 ·rw [print_rat]
  obtain ⟨c,l,e,hc⟩:=ratS_head q
  refine ⟨c,l,e,?_⟩
  rcases hc with rfl | hc
  ·decide
  ·rw [isD_iff] at hc
   exact ⟨toNat_ne (by show c.toNat ≠ 58; omega),toNat_ne (by show c.toNat ≠ 32; omega)⟩
 ·exact ⟨_,_,print_text s,by decide,by decide⟩
theorem strip_print {v:Va} (h:rightV v=true):valG (stripG (printV v))=v∧valG (stripG (32 :: printV v))=v∧valG (stripG (58 :: 32 :: printV v))=v:=by
 obtain ⟨c,r,e,h1,h2⟩:=print_first h
 have hs:stripG (printV v)=printV v:=by rw [e,stripG,if_neg (by rintro (k | k); exact h1 k; exact h2 k)]
 have hv:valG (printV v)=v:=by unfold valG; rw [readM_right h,if_pos h]
 have h32:∀ t,stripG (32 :: t)=stripG t:=fun t => by rw [stripG,if_pos (.inr rfl)]
 have h58:∀ t,stripG (58 :: t)=stripG t:=fun t => by rw [stripG,if_pos (.inl rfl)]
 exact ⟨by rw [hs,hv],by rw [h32,hs,hv],by rw [h58,h32,hs,hv]⟩
theorem scC_cons {c x:UInt8} {t:List UInt8} (h1:x ≠ 39) (h2:x ≠ c) (h:ScC c false t):ScC c false (x :: t):=by
 have hf:flip39 false x=false:=by unfold flip39; rw [if_neg h1]
 exact ⟨.inr h2,by rw [hf]; exact h⟩
theorem cutT_vals:∀ {l:List Va},l ≠ []→(∀ v ∈ l,rightV v=true)→(cutT 44 false [] (32 :: vaS l)).map (fun t => valG (stripG t))=l
 | [],h,_ => absurd rfl h
 | [v],_,h => by
  have hv:=h v (by simp)
  rw [vaS,cutT_end (scC_cons (by decide) (by decide) (sc_c (sc_print hv)))]
  simp [(strip_print hv).2.1]
 | v :: u :: l,_,h => by
  have hv:=h v (by simp)
  have hh:=cutT_app (c:=44) (by decide) (p:=32 :: printV v) (r:=32 :: vaS (u :: l)) (scC_cons (by decide) (by decide) (sc_c (sc_print hv)))
  rw [vaS_cons v (by simp),← List.cons_append,hh,List.map_cons,cutT_vals (by simp) (fun x hx => h x (List.mem_cons_of_mem _ hx)),(strip_print hv).2.1]
theorem cutT_vals1 {l:List Va} (h0:l ≠ []) (h:∀ v ∈ l,rightV v=true):(cutT 44 false [] (58 :: 32 :: vaS l)).map (fun t => valG (stripG t))=l:=by
 match l,h0 with
 | [v],_ =>
  have hv:=h v (by simp)
  rw [vaS,cutT_end (scC_cons (by decide) (by decide) (scC_cons (by decide) (by decide) (sc_c (sc_print hv))))]
  simp [(strip_print hv).2.2]
 | v :: u :: l,_ =>
  have hv:=h v (by simp)
  have hh:=cutT_app (c:=44) (by decide) (p:=58 :: 32 :: printV v) (r:=32 :: vaS (u :: l)) (scC_cons (by decide) (by decide) (scC_cons (by decide) (by decide) (sc_c (sc_print hv))))
  rw [vaS_cons v (by simp),← List.cons_append,← List.cons_append,hh,List.map_cons,cutT_vals (by simp) (fun x hx => h x (List.mem_cons_of_mem _ hx)),(strip_print hv).2.2]
theorem cellG_cellB {c:CellT} (h0:c.co ≠ []) (h1:∀ n ∈ c.co,-1073741824≤n∧n≤1073741824) (h2:c.vals ≠ []) (h3:∀ v ∈ c.vals,rightV v=true):cellG (cellB c)=c:=by
 have hj:∀ b:UInt8,b ≠ 32→b ≠ 45→isD b=false→b ∉ joinL 32 (c.co.map itS):=fun b k1 k2 k3 => join_not k1 (itS_list_not k2 k3)
 have e1:(cutT 58 false [] (cellB c)).headD []=joinL 32 (c.co.map itS):=by
  unfold cellB
  rw [cutT_app (by decide) (scC_plain (hj 58 (by decide) (by decide) (by decide)) (hj 39 (by decide) (by decide) (by decide)))]
  rfl
 have e2:(cellB c).drop (joinL 32 (c.co.map itS)).length=58 :: 32 :: vaS c.vals:=by
  unfold cellB
  exact List.drop_left
 unfold cellG
 rw [e1,e2,cutT_join (by decide) (by simpa using h0) (fun p hp => scC_plain (itS_list_not (by decide) (by decide) p hp) (itS_list_not (by decide) (by decide) p hp)),cutT_vals1 h2 h3,List.map_map]
 have e3:c.co.map (numE ∘ itS)=c.co:=by
  rw [List.map_congr_left (g:=id) (fun n hn => by have:=h1 n hn; exact numE_itS (by omega) (by omega))]
  simp
 rw [e3]
def hiG (p:List UInt8):Int:=if p=[42] then 1073741825 else numE p
def dimG (f:List (List UInt8)):DimT:=⟨f.getD 1 [],numE ((cutT 58 false [] (f.getD 2 [])).headD []),hiG ((cutT 58 false [] (f.getD 2 [])).getLastD [])⟩
def attrG (f:List (List UInt8)):AttrT:=⟨f.getD 1 [],(tyO (f.getD 2 [])).getD 0⟩
def guessL (x:ArrT) (l:List UInt8):ArrT :=
 if (cutT 32 false [] l).length=3∧(cutT 32 false [] l).getD 0 []=[100,105,109] then ⟨x.dims ++ [dimG (cutT 32 false [] l)],x.attrs,x.cells⟩
 else if (cutT 32 false [] l).length=3∧(cutT 32 false [] l).getD 0 []=[97,116,116,114] then ⟨x.dims,x.attrs ++ [attrG (cutT 32 false [] l)],x.cells⟩
 else if l=[] then x else ⟨x.dims,x.attrs,x.cells ++ [cellG l]⟩
def guessF (x:ArrT):List (List UInt8)→ArrT
 | [] => x
 | l :: r => guessF (guessL x l) r
def guessE (s:List UInt8):ArrT:=guessF ⟨[],[],[]⟩ (cutT 10 false [] s)
theorem hiG_hiS {h:Int} (h1 : -1073741825≤h) (h2:h≤1073741825):hiG (hiS h)=h:=by
 unfold hiG hiS
 by_cases he:h=1073741825
 ·rw [if_pos he,if_pos rfl,he]
 ·rw [if_neg he,if_neg,numE_itS h1 h2]
  intro e
  have:(42:UInt8) ∉ itS h:=itS_not (by decide) (by decide)
  rw [e] at this
  exact this (by simp)
theorem cut3 {c:UInt8} (hc:c ≠ 39) {p q r:List UInt8} (h1:ScC c false p) (h2:ScC c false q) (h3:ScC c false r):cutT c false [] (p ++ c :: (q ++ c :: r))=[p,q,r]:=by
 rw [cutT_app hc h1,cutT_app hc h2,cutT_end h3]
theorem guess_dim {x:ArrT} {d:DimT} (h1:∀ c ∈ d.name,furtherB c=true) (h2 : -1073741824≤d.lo) (h3:d.lo≤1073741824) (h4:d.lo≤d.hi) (h5:d.hi≤1073741825):guessL x (dimL d)=⟨x.dims ++ [d],x.attrs,x.cells⟩:=by
 have n32:=further_not h1 (c:=32) (by decide)
 have n39:=further_not h1 (c:=39) (by decide)
 have m32:(32:UInt8) ∉ itS d.lo ++ 58 :: hiS d.hi:=by
  simp only [List.mem_append,List.mem_cons,not_or]
  exact ⟨itS_not (by decide) (by decide),by decide,hiS_not (by decide) (by decide) (by decide)⟩
 have m39:(39:UInt8) ∉ itS d.lo ++ 58 :: hiS d.hi:=by
  simp only [List.mem_append,List.mem_cons,not_or]
  exact ⟨itS_not (by decide) (by decide),by decide,hiS_not (by decide) (by decide) (by decide)⟩
 have e:cutT 32 false [] (dimL d)=[[100,105,109],d.name,itS d.lo ++ 58 :: hiS d.hi] :=
  cut3 (p:=[100,105,109]) (by decide) (scC_plain (by decide) (by decide)) (scC_plain n32 n39) (scC_plain m32 m39)
 have e2:cutT 58 false [] (itS d.lo ++ 58 :: hiS d.hi)=[itS d.lo,hiS d.hi]:=by
  rw [cutT_app (by decide) (scC_plain (itS_not (by decide) (by decide)) (itS_not (by decide) (by decide))),cutT_end (scC_plain (hiS_not (by decide) (by decide) (by decide)) (hiS_not (by decide) (by decide) (by decide)))]
 unfold guessL
 rw [e,if_pos ⟨rfl,rfl⟩]
 unfold dimG
 simp only [List.getD_cons_succ,List.getD_cons_zero,e2,List.headD_cons]
 have e3:([itS d.lo,hiS d.hi]:List (List UInt8)).getLastD []=hiS d.hi:=rfl
 rw [e3,numE_itS (by omega) (by omega),hiG_hiS (by omega) h5]
theorem guess_attr {x:ArrT} {a:AttrT} (h1:∀ c ∈ a.name,furtherB c=true) (h2:1≤a.ty) (h3:a.ty≤4):guessL x (attrL a)=⟨x.dims,x.attrs ++ [a],x.cells⟩:=by
 have n32:=further_not h1 (c:=32) (by decide)
 have n39:=further_not h1 (c:=39) (by decide)
 have e:cutT 32 false [] (attrL a)=[[97,116,116,114],a.name,wordT a.ty] :=
  cut3 (p:=[97,116,116,114]) (by decide) (scC_plain (by decide) (by decide)) (scC_plain n32 n39) (scC_plain (wordT_not _ _ (by decide)) (wordT_not _ _ (by decide)))
 unfold guessL
 rw [e,if_neg (by rintro ⟨-,h⟩; cases h),if_pos ⟨rfl,rfl⟩]
 unfold attrG
 simp only [List.getD_cons_succ,List.getD_cons_zero,tyO_word h2 h3,Option.getD_some]
theorem guess_cell {x:ArrT} {c:CellT} (h0:c.co ≠ []) (h1:∀ n ∈ c.co,-1073741824≤n∧n≤1073741824) (h2:c.vals ≠ []) (h3:∀ v ∈ c.vals,rightV v=true):guessL x (cellB c)=⟨x.dims,x.attrs,x.cells ++ [c]⟩:=by
 obtain ⟨y,r,hy,hl⟩:=cellB_head h0
 have hh:(cutT 32 false [] (cellB c)).getD 0 [] ≠ [100,105,109]∧(cutT 32 false [] (cellB c)).getD 0 [] ≠ [97,116,116,114]:=by
  rw [hy,cutT]
  split
  ·exact ⟨by simp,by simp⟩
  ·obtain ⟨t,q,e⟩:=cutT_head 32 r (flip39 false y) ([] ++ [y])
   rw [e]
   simp only [List.nil_append,List.singleton_append,List.getD_cons_zero]
   constructor
   ·intro e2
    injection e2 with e2
    rw [e2] at hl; simp at hl
   ·intro e2
    injection e2 with e2
    rw [e2] at hl; simp at hl
 unfold guessL
 rw [if_neg (fun h => hh.1 h.2),if_neg (fun h => hh.2 h.2),if_neg (by rw [hy]; simp),cellG_cellB h0 h1 h2 h3]
theorem guessF_app:∀ (a b:List (List UInt8)) (x:ArrT),guessF x (a ++ b)=guessF (guessF x a) b
 | [],_,_ => rfl
 | l :: a,b,x => by rw [List.cons_append,guessF,guessF,guessF_app a b]
theorem guessF_dims:∀ (d:List DimT) (x:ArrT),(∀ y ∈ d,(∀ c ∈ y.name,furtherB c=true) ∧ -1073741824≤y.lo∧y.lo≤1073741824∧y.lo≤y.hi∧y.hi≤1073741825)→guessF x (d.map dimL)=⟨x.dims ++ d,x.attrs,x.cells⟩
 | [],x,_ => by simp [guessF]
 | y :: d,x,h => by
  obtain ⟨h1,h2,h3,h4,h5⟩:=h y (by simp)
  rw [List.map_cons,guessF,guess_dim h1 h2 h3 h4 h5,guessF_dims d _ (fun z hz => h z (List.mem_cons_of_mem _ hz))]
  simp
theorem guessF_attrs:∀ (a:List AttrT) (x:ArrT),(∀ y ∈ a,(∀ c ∈ y.name,furtherB c=true)∧1≤y.ty∧y.ty≤4)→guessF x (a.map attrL)=⟨x.dims,x.attrs ++ a,x.cells⟩
 | [],x,_ => by simp [guessF]
 | y :: d,x,h => by
  obtain ⟨h1,h2,h3⟩:=h y (by simp)
  rw [List.map_cons,guessF,guess_attr h1 h2 h3,guessF_attrs d _ (fun z hz => h z (List.mem_cons_of_mem _ hz))]
  simp
theorem guessF_cells:∀ (l:List CellT) (x:ArrT),(∀ c ∈ l,c.co ≠ []∧c.vals ≠ []∧(∀ n ∈ c.co,-1073741824≤n∧n≤1073741824)∧∀ v ∈ c.vals,rightV v=true)→guessF x (l.map cellB)=⟨x.dims,x.attrs,x.cells ++ l⟩
 | [],x,_ => by simp [guessF]
 | y :: d,x,h => by
  obtain ⟨h1,h2,h3,h4⟩:=h y (by simp)
  rw [List.map_cons,guessF,guess_cell h1 h3 h2 h4,guessF_cells d _ (fun z hz => h z (List.mem_cons_of_mem _ hz))]
  simp
theorem end_vaS:∀ {l:List Va},(∀ v ∈ l,rightV v=true)→endQ false (vaS l)=false
 | [],_ => rfl
 | [v],h => by rw [vaS]; exact sc_end (sc_print (h v (by simp)))
 | v :: u :: l,h => by
  rw [vaS_cons v (by simp),endQ_app,sc_end (sc_print (h v (by simp)))]
  exact end_vaS fun x hx => h x (List.mem_cons_of_mem _ hx)
theorem lines_end {x:ArrT} (h:GoodT x):∀ p ∈ linesA x,endQ false p=false:=fun p hp => by
 unfold linesA at hp
 rcases List.mem_append.1 hp with hp | hp
 ·rcases List.mem_append.1 hp with hp | hp
  ·obtain ⟨d,hd,rfl⟩:=List.mem_map.1 hp
   refine end_plain ?_
   simp only [dimL,dimB,List.mem_cons,List.mem_append,not_or]
   exact ⟨by decide,by decide,by decide,by decide,further_not (h.dn d hd).1 (by decide),by decide,itS_not (by decide) (by decide),by decide,hiS_not (by decide) (by decide) (by decide)⟩
  ·obtain ⟨a,ha,rfl⟩:=List.mem_map.1 hp
   refine end_plain ?_
   simp only [attrL,attrB,List.mem_cons,List.mem_append,not_or]
   exact ⟨by decide,by decide,by decide,by decide,by decide,further_not (h.an a ha).1 (by decide),by decide,wordT_not _ _ (by decide)⟩
 ·obtain ⟨c,hc,rfl⟩:=List.mem_map.1 hp
  unfold cellB
  rw [endQ_app,end_plain (join_not (by decide) (itS_list_not (by decide) (by decide)))]
  exact end_vaS (h.cv c hc)
theorem guessE_prA {x:ArrT} (h:GoodT x):guessE (prA x)=x:=by
 have hs:∀ p ∈ linesA x ++ [[]],ScC 10 false p:=fun p hp => by
  rcases List.mem_append.1 hp with hp | hp
  ·exact scC_of (lines_not h p hp) (lines_end h p hp)
  ·simp only [List.mem_singleton] at hp
   subst hp; rfl
 have hj:prA x=joinL 10 (linesA x ++ [[]]):=by
  have key:∀ (l:List (List UInt8)),l.flatMap (· ++ [10])=joinL 10 (l ++ [[]]):=by
   intro l
   induction l with
   | nil => rfl
   | cons p l ih => rw [List.flatMap_cons,ih,List.cons_append,join_cons 10 p (by simp)]; simp
  exact key _
 unfold guessE
 rw [hj,cutT_join (by decide) (by simp) hs,guessF_app]
 unfold linesA
 rw [guessF_app,guessF_app,guessF_dims _ _ (fun d hd => ⟨(h.dn d hd).1,h.db d hd⟩),guessF_attrs _ _ (fun a ha => ⟨(h.an a ha).1,h.at' a ha⟩),guessF_cells _ _ (fun c hc => ⟨(h.c0 c hc).1,(h.c0 c hc).2,h.ci c hc,h.cv c hc⟩)]
 rfl
def readA (s:List UInt8):Option ArrT:=if checkE (guessE s)=0∧prA (guessE s)=s then some (guessE s) else none
theorem readA_iff {s:List UInt8} {x:ArrT}:readA s=some x ↔ checkE x=0∧prA x=s:=by
 unfold readA
 constructor
 ·intro h
  split at h
  ·rename_i hc; cases h; exact hc
  ·cases h
 ·rintro ⟨h1,h2⟩
  have hg:guessE s=x:=by rw [← h2]; exact guessE_prA (check_goodT h1)
  rw [hg,if_pos ⟨h1,h2⟩]
theorem readA_parse (s:List UInt8):readA s=match parseE s with
  | some x => if checkE x=0 then some x else none
  | none => none:=by
 cases hp:parseE s with
 | none =>
  simp only
  cases hr:readA s with
  | none => rfl
  | some x =>
   obtain ⟨h1,h2⟩:=readA_iff.1 hr
   rw [← h2,parseE_prA (check_goodT h1)] at hp
   cases hp
 | some x =>
  simp only
  by_cases hc:checkE x=0
  ·rw [if_pos hc]
   exact readA_iff.2 ⟨hc,parseE_some hp (check_goodT hc).a0⟩
  ·rw [if_neg hc]
   cases hr:readA s with
   | none => rfl
   | some y =>
    obtain ⟨h1,h2⟩:=readA_iff.1 hr
    rw [← h2,parseE_prA (check_goodT h1)] at hp
    cases hp
    exact absurd h1 hc
end Go.Proofs.YtdbnebhehiiakaaGreatDoor
namespace Go.Proofs.YtdbnebhehiiakaaGreatDoor
open Go.RowKit
structure Gl (w:World):Prop where
 ml:Ml w
 es:∃ ev,w.cell? ⟨4,0,none⟩=some ev∧(ev=.nilIface ∨ ∃ te pe,ev=.iface te pe)
 er:∃ ev,w.cell? ⟨5,0,none⟩=some ev∧(ev=.nilIface ∨ ∃ te pe,ev=.iface te pe)
 tab:Lib.TabIs Tryz.prog w "internal/strconv.uint64pow10" .u64 Lib.pow10Tab
theorem Gl.later {w w':World} (h:Gl w) (hb:Below w.heap.size w w'):Gl w':=by
 obtain ⟨e1,h1,k1⟩:=h.es
 obtain ⟨e2,h2,k2⟩:=h.er
 exact ⟨h.ml.later hb,⟨e1,cell_later h1 hb,k1⟩,⟨e2,cell_later h2 hb,k2⟩,Go.Joins.tab_stays (g:=0) (by kernel_rfl) h.tab hb (Nat.le_refl _)⟩
theorem itoaT_any (n:Int) (w:World) (hg:Gl w) (h0 : -9223372036854775808≤n) (h1:n≤9223372036854775807) :
  Calls Tryz.prog 30 #[.int .i64 n] w (RetV' (strV (itS n)) w) :=
 (Tryz.strconv_Itoa n h0 h1 w hg.tab).mono fun e w' ⟨he,k,os,hw⟩ => ⟨by rw [he,itoa_itS],by rw [hw]; exact Lib.below_grow _ _ (Nat.le_refl _) _ _⟩
def RetAt (s:List UInt8) (w:World) (e:Ending) (w':World):Prop:=∃ n er,e=.returned (.tuple #[.int .i64 n,er])∧((er=.nilIface∧Lib.atoiAll s=.ok n) ∨ ((∃ t p,er=.iface t p)∧∀ m,Lib.atoiAll s ≠ .ok m))∧Below w.heap.size w w'
theorem atoiT_any (s:List UInt8) (w:World) (hg:Gl w) (hl:s.length≤20000):Calls Tryz.prog 140 #[strV s] w (RetAt s w):=by
 have hs:(⟨s.toArray⟩:ByteArray).size=s.length:=by simp [ByteArray.size]
 rcases h:Lib.atoiAll s with v | _ | _
 ·refine (Tryz.strconv_Atoi_ok ⟨s.toArray⟩ (by omega) v (by simpa using h) w).mono ?_
  rintro e w' ⟨rfl,hw⟩
  refine ⟨v,_,rfl,.inl ⟨rfl,h⟩,?_⟩
  rcases hw with rfl | ⟨t,rfl⟩
  ·exact Below.refl _ _
  ·exact Lib.bytesWorld_below _ _ _
 ·obtain ⟨ev,h1,h2⟩:=hg.es
  refine (Tryz.strconv_Atoi_syntax ⟨s.toArray⟩ (by omega) h ev w h1 h2).mono ?_
  rintro e w' ⟨N,rfl,-,-,hb⟩
  exact ⟨_,_,rfl,.inr ⟨⟨_,_,rfl⟩,fun m => by rw [h]; simp⟩,hb⟩
 ·obtain ⟨ev,h1,h2⟩:=hg.er
  refine (Tryz.strconv_Atoi_range ⟨s.toArray⟩ (by omega) (by simpa using h) ev w h1 h2).mono ?_
  rintro e w' ⟨N,rfl,-,-,hb⟩
  exact ⟨_,_,rfl,.inr ⟨⟨_,_,rfl⟩,fun m => by rw [h]; simp⟩,hb⟩
theorem cutS_any (s sep:List UInt8) (w:World) (hm:Ml w) (hs:s.length≤20000) :
  Calls Tryz.prog 88 #[strV s,strV sep] w (RetV' (.tuple #[strV (Lib.cut s sep).1,strV (Lib.cut s sep).2.1,.bool (Lib.cut s sep).2.2]) w):=by
 obtain ⟨m,hm⟩:=hm
 refine (Tryz.strings_Cut ⟨s.toArray⟩ ⟨sep.toArray⟩ m w (by simp [ByteArray.size]; omega) hm).mono ?_
 rintro e w' ⟨rfl,n,rfl⟩
 exact ⟨rfl,below_drewN' _ _⟩
def RetIo (s:List UInt8) (w:World) (e:Ending) (w':World):Prop:=∃ n,e=.returned (.tuple #[.int .i64 n,.bool (intO s).isSome])∧(∀ m,intO s=some m→n=m)∧Below w.heap.size w w'
set_option maxHeartbeats 1600000 in
set_option maxRecDepth 100000 in
theorem integer_any (s:List UInt8) (w:World) (hg:Gl w) (hl:s.length≤20000):Calls Tryz.prog 89 #[strV s] w (RetIo s w):=by
 have CA:=Lib.hid (atoiT_any s w hg hl)
 have HG:=Lib.hid hg
 clear hg hl
 go_enter Tryz.func89,Tryz.ntmps89
 go_wp2_with fail
 refine CA.out.mono ?_
 rintro e w1 ⟨n,er,rfl,hc,hb⟩
 have HB:=Lib.hid hb
 clear hb CA
 rcases hc with ⟨rfl,ha⟩ | ⟨⟨t,p,rfl⟩,ha⟩
 ·have hbn:=Lib.atoiAll_bounds ha
  have CI:=Lib.hid (itoaT_any n w1 (HG.out.later HB.out) hbn.1 hbn.2)
  have hio:intO s=if itS n=s then some n else none:=by unfold intO; rw [ha]
  have HIO:=Lib.hid hio
  clear ha hbn hio
  go_wp2_with fail
  refine CI.out.mono ?_
  rintro e w2 ⟨rfl,hb⟩
  have HB2:=Lib.hid (below_keep HB.out hb)
  clear hb CI
  by_cases hs:itS n=s
  ·have HE:Hid (intO s=some n):=by show _=_; rw [HIO.out,if_pos hs]
   subst hs
   clear HIO
   go_wp2
   go_ret2
   exact ⟨n,by rw [HE.out]; rfl,fun m hm => by rw [HE.out] at hm; cases hm; rfl,HB2.out⟩
  ·have HE:Hid (intO s=none):=by show _=_; rw [HIO.out,if_neg hs]
   have hs':(itS n == s)=false:=by rw [beq_eq_false_iff_ne]; exact hs
   clear HIO hs
   go_wp2
   go_ret2
   exact ⟨n,by rw [HE.out]; rfl,fun m hm => (by rw [HE.out] at hm; cases hm),HB2.out⟩
 ·have HE:Hid (intO s=none):=by
   show _=_
   unfold intO
   rcases h:Lib.atoiAll s with v | _ | _
   ·exact absurd h (ha v)
   ·rfl
   ·rfl
  clear ha
  go_wp2
  go_ret2
  exact ⟨n,by rw [HE.out]; rfl,fun m hm => (by rw [HE.out] at hm; cases hm),HB.out⟩
end Go.Proofs.YtdbnebhehiiakaaGreatDoor
namespace Go.Proofs.YtdbnebhehiiakaaGreatDoor
open Go.RowKit
theorem laid_one {P:Program} {w:World} {l:List (String × DataW Unit)} (h:laidMetH P l w) (n:String) (d:DataW Unit) (hf:(l.filter fun x => x.1 == n)=[(n,d)]) (hn:d.handleName?.isNone=true):laidMet P [(n,d)] w:=by
 have:=h.filter (fun x => x.1 == n)
 rw [hf,MakeChecks.laidMetH_plain _ _ _ (by simp [hn])] at this
 exact this
theorem star_err : "*" ++ "errors.errorString" = "*errors.errorString":=by decide
theorem row_err (u:TypeId) (h:Tryz.prog.typeName? 3 u=some "*errors.errorString"):u = 271 :=
 typeName_ptr_named (nm:="errors.errorString") (by rw [star_err]; kernel_rfl) (by kernel_rfl) (by decide) u (by rw [star_err]; exact h)
theorem gES:Tryz.prog.globalNamed "strconv.ErrSyntax" = some 4:=by kernel_rfl
theorem gER:Tryz.prog.globalNamed "strconv.ErrRange" = some 5:=by kernel_rfl
theorem err_cell {W:World} {n:String} {g:Nat} {text:List UInt8} (h:laidMet Tryz.prog [(n,.iface "*errors.errorString" (.ptr (.agg [.lit (.string text)])))] W)
  (hg:Tryz.prog.globalNamed n=some g) (ht:(Tryz.prog.globals[g]?).map (·.type)=some 77) :
  ∃ ev,W.cell? ⟨g,0,none⟩=some ev∧(ev=.nilIface ∨ ∃ te pe,ev=.iface te pe):=by
 obtain ⟨a0,s0,hv0,-,-,-⟩:=laid_sentinel h hg ht Tryz.underlying77 row_err Tryz.underlying271 Tryz.underlying273 rfl rfl Tryz.underlying9 (by kernel_rfl) (by kernel_rfl)
 exact ⟨_,by have h0:=World.var?_cell hg hv0 0; simpa using h0,.inr ⟨_,_,rfl⟩⟩
end Go.Proofs.YtdbnebhehiiakaaGreatDoor
namespace Go.Proofs.YtdbnebhehiiakaaGreatDoor
open Go.RowKit
theorem gl_ofK {W:World} (hS:W.ShapedOpen Tryz.prog) (hL:laidMetH Tryz.prog Rows.spaceKnownRow.laid W):Gl W:=by
 refine ⟨Go.Proofs.cell_of_shapedOpen_int (zero:=#[.int .i64 0]) (t:=3) hS (of_decide_eq_true (by kernel_rfl)) (by kernel_rfl) rfl (by kernel_rfl) (by kernel_rfl) Tryz.underlying3,?_,?_,?_⟩
 ·exact err_cell (laid_one hL "strconv.ErrSyntax" Rows.laid_strconv_ErrSyntax (by kernel_rfl) (by kernel_rfl)) gES (by kernel_rfl)
 ·exact err_cell (laid_one hL "strconv.ErrRange" Rows.laid_strconv_ErrRange (by kernel_rfl) (by kernel_rfl)) gER (by kernel_rfl)
 ·have h1:=laid_one hL "internal/strconv.uint64pow10" Rows.laid_internal_strconv_uint64pow10 (by kernel_rfl) (by kernel_rfl)
  exact Lib.tabIs_of_head (g:=0) (t:=228) (e:=153) (n:=20) (zs:=Lib.pow10Tab) (rest:=[]) (by kernel_rfl) (by kernel_rfl) Tryz.underlying228 Tryz.underlying153 (by kernel_rfl) (by kernel_rfl) h1
end Go.Proofs.YtdbnebhehiiakaaGreatDoor
