/- Lemmas and contracts, each under its own condition: Plain: which value a string denotes, case by case. Contract: Read. Contract: Read, the strings of numbers. Contract: Read, the other strings; the whole. -/
import Derived.Test.YtdbnebhehiiakaaGreatDoorV2
namespace Go.Proofs.YtdbnebhehiiakaaGreatDoor
open Go.RowKit
abbrev sTrue:List UInt8:=[116,114,117,101]
abbrev sFalse:List UInt8:=[102,97,108,115,101]
def inner (l:List UInt8):List UInt8:=(l.drop 1).dropLast
def readMiss (l:List UInt8):Va:=match parseD (l.drop 1) with
 | some n => missV n
 | none => zeroV
def readText (l:List UInt8):Va:=if dbl (undb (inner l))=inner l then textV (undb (inner l)) else zeroV
def readRat (l:List UInt8):Va:=match parseQ l with
 | some q => if qnum q≤T40∧q.den≤T40 then ratV q else zeroV
 | none => zeroV
def quoted (l:List UInt8):Prop:=2≤l.length∧l.head? = some 39∧l.getLast? = some 39
instance (l:List UInt8):Decidable (quoted l):=by unfold quoted; infer_instance
def readM (l:List UInt8):Va :=
 if l=sTrue then truthV true else if l=sFalse then truthV false
 else if Lib.hasPrefix l [63]=true∧l.length≤4 then readMiss l
 else if quoted l then readText l
 else if l.length<40 then readRat l
 else zeroV
theorem quoted_parts {l:List UInt8} (h:quoted l):l=39 :: inner l ++ [39]:=by
 obtain ⟨h1,h2,h3⟩:=h
 cases l with
 | nil => simp at h2
 | cons a t =>
  simp only [List.head?_cons,Option.some.injEq] at h2
  subst h2
  have ht:t ≠ []:=by rintro rfl; simp at h1
  rw [List.getLast?_cons_of_ne_nil ht] at h3 <;> skip
  have h4:t.getLast ht=39:=by
   rw [List.getLast?_eq_some_getLast ht] at h3; exact Option.some.inj h3
  unfold inner
  rw [List.drop_one,List.tail_cons,List.cons_append,← h4,List.dropLast_concat_getLast]
theorem quoted_of (t:List UInt8):quoted (39 :: t ++ [39])∧inner (39 :: t ++ [39])=t:=by
 refine ⟨⟨by simp,by simp,?_⟩,?_⟩
 ·rw [List.getLast?_append]; simp
 ·unfold inner; simp
theorem dec3 {n:Nat} (h:n≤255):(dec n).length≤3:=dec_len_le n 3 (by decide) (by omega)
theorem ratS_len {q:Rat} (h:FitQ q):(ratS q).length<40:=by
 have h1:=dec_len_le (qnum q) 13 (by decide) (Nat.lt_of_le_of_lt h.num (by decide))
 have h2:=dec_len_le q.den 13 (by decide) (Nat.lt_of_le_of_lt h.den (by decide))
 unfold ratS
 simp only [List.length_append]
 split <;> split <;> simp <;> omega
theorem ratS_ne {q:Rat} {l:List UInt8} (h:headK l ≠ 2):ratS q ≠ l:=fun e => h (by rw [← e,head_rat])
theorem hasPrefix_one (c:UInt8) (l:List UInt8):Lib.hasPrefix l [c]=true ↔ l.head? = some c:=by
 unfold Lib.hasPrefix
 cases l with
 | nil => simp [List.isPrefixOf]
 | cons a t => simp [List.isPrefixOf]; exact eq_comm
theorem readM_right {x:Va} (hx:rightV x=true):readM (printV x)=x:=by
 rcases right_cases hx with ⟨r,h1,h2,rfl⟩ | ⟨b,rfl⟩ | ⟨q,hq,rfl⟩ | ⟨s,h1,h2,rfl⟩
 ·rw [print_miss]
  unfold readM
  rw [if_neg (by simp),if_neg (by simp),if_pos ⟨by rw [hasPrefix_one]; rfl,by have:=dec3 (n:=r.natAbs) (by omega); simp; omega⟩]
  unfold readMiss
  rw [List.drop_one,List.tail_cons,parseD_dec]
  show missV ((r.natAbs:Nat):Int)=_
  rw [show ((r.natAbs:Nat):Int)=r from by omega]
 ·cases b
  ·rfl
  ·rfl
 ·rw [print_rat]
  unfold readM
  have hh:∀ c:UInt8,headK [c] ≠ 2→(ratS q).head? ≠ some c:=by
   intro c hc e
   have h:=head_rat q
   cases hl:ratS q with
   | nil => rw [hl] at e; simp at e
   | cons a t =>
    rw [hl] at e h
    simp only [List.head?_cons,Option.some.injEq] at e
    subst e
    exact hc h
  rw [if_neg (ratS_ne (by decide)),if_neg (ratS_ne (by decide)),if_neg (fun h => hh 63 (by decide) ((hasPrefix_one _ _).1 h.1)),if_neg (fun h => hh 39 (by decide) h.2.1),
   if_pos (ratS_len hq)]
  unfold readRat
  rw [parseQ_ratS]
  show (if _ then _ else _)=_
  rw [if_pos ⟨hq.num,hq.den⟩]
 ·rw [print_text]
  unfold readM
  obtain ⟨k1,k2⟩:=quoted_of (dbl s)
  rw [if_neg (by simp),if_neg (by simp),if_neg (fun h => by have:=(hasPrefix_one _ _).1 h.1; simp at this),if_pos k1]
  unfold readText
  rw [k2,undb_dbl,if_pos rfl]
theorem readM_print {l:List UInt8} (hx:rightV (readM l)=true):printV (readM l)=l:=by
 unfold readM at *
 split at hx
 ·rename_i h; rw [if_pos h,h]; rfl
 rename_i h1; rw [if_neg h1]
 split at hx
 ·rename_i h; rw [if_pos h,h]; rfl
 rename_i h2; rw [if_neg h2]
 split at hx
 ·rename_i h; rw [if_pos h]
  unfold readMiss at *
  have hp:=(hasPrefix_one _ _).1 h.1
  cases l with
  | nil => simp at hp
  | cons a t =>
   simp only [List.head?_cons,Option.some.injEq] at hp
   subst hp
   rw [List.drop_one,List.tail_cons] at *
   cases hd:parseD t with
   | none => rw [hd] at hx; cases hx
   | some n =>
    show printV (missV n)=_
    rw [print_miss,Int.natAbs_natCast,(parseD_iff t n).1 hd]
 rename_i h3; rw [if_neg h3]
 split at hx
 ·rename_i h; rw [if_pos h]
  unfold readText at *
  split at hx
  ·rename_i h4
   rw [if_pos h4,print_text,h4]
   exact (quoted_parts h).symm
  ·cases hx
 rename_i h4; rw [if_neg h4]
 split at hx
 ·rename_i h; rw [if_pos h]
  unfold readRat at *
  cases hd:parseQ l with
  | none => rw [hd] at hx; cases hx
  | some q =>
   rw [hd] at hx
   simp only at hx ⊢
   split at hx
   ·rename_i h5; rw [if_pos h5,print_rat]; exact ((parseQ_iff l q).1 hd).symm
   ·cases hx
 ·cases hx
def readE (x:Va):Value:=if rightV x=true then .tuple #[x.v,.int .i64 0] else .tuple #[zeroV.v,.int .i64 7]
structure Two (w W:World):Prop where
 below:Below w.heap.size w W
 lt:w.heap.size+1<W.heap.size
 res:ResV W w.heap.size
 val:ResV W (w.heap.size+1)
theorem Two.made (w:World) (t:TypeId):Two w ((w.alloc (.cells #[.int .i64 0,.int .i64 0,.int .i64 0,.string ⟨#[]⟩] t)).alloc (.cells #[.int .i64 0,.int .i64 0,.int .i64 0,.string ⟨#[]⟩] t)):=by
 refine ⟨(below_alloc _ _).trans ((below_alloc _ _).mono (by simp)),by simp,(ResV.made w _).later (below_alloc _ _) (by simp),?_⟩
 have:=ResV.made (w.alloc (.cells #[.int .i64 0,.int .i64 0,.int .i64 0,.string ⟨#[]⟩] t)) t
 simpa using this
theorem Two.later {w W W':World} (h:Two w W) (hb:Below W.heap.size W W'):Two w W' :=
 ⟨h.below.trans (hb.mono h.below.size),Nat.lt_of_lt_of_le h.lt hb.size,h.res.later hb (by have:=h.lt; omega),h.val.later hb h.lt⟩
set_option maxHeartbeats 1600000 in
set_option maxRecDepth 100000 in
theorem read_true (w:World) :
  Calls Tryz.prog 141 #[.string ⟨#[116,114,117,101]⟩] w fun e w' => e=.returned (.tuple #[(truthV true).v,.int .i64 0])∧Below w.heap.size w w':=by
 have C:=Lib.hid (fun w1 => truth_any true w1)
 have HT:=Lib.hid (Two.made w 59)
 go_enter Tryz.func141,Tryz.ntmps141
 go_wp2_with fail
 refine (C.out _).mono ?_
 rintro e w1 ⟨rfl,hb1⟩
 have HT1:=Lib.hid (HT.out.later hb1)
 obtain ⟨⟨r0,r1,r2,r3⟩,f0,f1,f2,f3⟩:=HT1.out.res
 clear C HT hb1
 go_wp2
 refine bodyPost_ret (by simp [results,Tryz.results141,go_sem,r0,r1,r2,r3]; try rfl) rfl ?_
 exact ⟨rfl,below_set4 HT1.out.below⟩
set_option maxHeartbeats 1600000 in
set_option maxRecDepth 100000 in
theorem read_false (w:World) :
  Calls Tryz.prog 141 #[.string ⟨#[102,97,108,115,101]⟩] w fun e w' => e=.returned (.tuple #[(truthV false).v,.int .i64 0])∧Below w.heap.size w w':=by
 have C:=Lib.hid (fun w1 => truth_any false w1)
 have HT:=Lib.hid (Two.made w 59)
 go_enter Tryz.func141,Tryz.ntmps141
 go_wp2_with fail
 refine (C.out _).mono ?_
 rintro e w1 ⟨rfl,hb1⟩
 have HT1:=Lib.hid (HT.out.later hb1)
 obtain ⟨⟨r0,r1,r2,r3⟩,f0,f1,f2,f3⟩:=HT1.out.res
 clear C HT hb1
 go_wp2
 refine bodyPost_ret (by simp [results,Tryz.results141,go_sem,r0,r1,r2,r3]; try rfl) rfl ?_
 exact ⟨rfl,below_set4 HT1.out.below⟩
theorem quoted_iff (s:ByteArray) (h:2≤s.size):quoted s.data.toList ↔ s[0]=39∧s[s.size - 1]=39:=by
 have e1:s.data.toList.head? = some s[0]:=by
  have hd:s.data.toList.head? = s.data.toList[0]?:=by cases s.data.toList <;> rfl
  rw [hd,List.getElem?_eq_getElem (by rw [lenB]; omega)]; rfl
 have e2:s.data.toList.getLast? = some s[s.size - 1]:=by
  rw [List.getLast?_eq_getElem?,List.getElem?_eq_getElem (by rw [lenB]; omega)]
  simp only [lenB]; rfl
 unfold quoted
 rw [lenB,e1,e2]
 constructor
 ·rintro ⟨-,h1,h2⟩; exact ⟨Option.some.inj h1,Option.some.inj h2⟩
 ·rintro ⟨h1,h2⟩; exact ⟨h,by rw [h1],by rw [h2]⟩
theorem byte39 {c:UInt8}:((c.toNat:Int) == 39)=true ↔ c=39:=by
 rw [beq_iff_eq]
 constructor
 ·intro h; apply UInt8.toNat_inj.1; show c.toNat=39; omega
 ·rintro rfl; rfl
theorem byte39' {c:UInt8} (h:c ≠ 39):((c.toNat:Int) == 39)=false:=by
 rw [Bool.eq_false_iff]; exact fun e => h (byte39.1 e)
inductive Unq (s:ByteArray):Prop where
 | small (h:s.size<2)
 | first (h:2≤s.size) (h1:((s[0].toNat:Int) == 39)=false)
 | last (h:2≤s.size) (h1:((s[0].toNat:Int) == 39)=true) (h2:((s[s.size - 1].toNat:Int) == 39)=false)
theorem unq_of {s:ByteArray} (h:¬ quoted s.data.toList):Unq s:=by
 by_cases h2:2≤s.size
 ·rw [quoted_iff s h2] at h
  by_cases h3:s[0]=39
  ·exact .last h2 (byte39.2 h3) (byte39' fun e => h ⟨h3,e⟩)
  ·exact .first h2 (byte39' h3)
 ·exact .small (by omega)
set_option maxHeartbeats 1600000 in
set_option maxRecDepth 100000 in
theorem read_none (s:ByteArray) (w:World) (h1:s.data.toList ≠ sTrue) (h2:s.data.toList ≠ sFalse) (h4:40≤s.size) (hs:s.size≤20000) (h5:Unq s) :
  Calls Tryz.prog 141 #[.string s] w fun e w' => e=.returned (.tuple #[zeroV.v,.int .i64 7])∧Below w.heap.size w w':=by
 have e1:(s.toList == [116,114,117,101])=false:=by rw [ByteArray.toList_eq]; simpa using h1
 have e2:(s.toList == [102,97,108,115,101])=false:=by rw [ByteArray.toList_eq]; simpa using h2
 have CP:=Lib.hid (fun w1 => Tryz.strings_HasPrefix s ⟨#[63]⟩ w1)
 have CR:=Lib.hid (fun w1 => right_any zeroV w1)
 rw [right_zero] at CR
 obtain ⟨b,hb⟩:∃ b,Lib.hasPrefix s.data.toList [63]=b:=⟨_,rfl⟩
 have HT:=Lib.hid (Two.made w 59)
 simp only [hb] at CP
 clear h1 h2 hb
 rcases h5 with h | ⟨h,q1⟩ | ⟨h,q1,q2⟩
 ·exfalso; omega
 all_goals
  cases b
  all_goals
   go_enter Tryz.func141,Tryz.ntmps141
   go_wp2_with fail
   refine (CP.out _).mono ?_
   rintro e w1 ⟨rfl,rfl⟩
   go_wp2_with fail
   refine (CR.out _).mono ?_
   rintro e w1 ⟨rfl,hb1⟩
   have HT1:=Lib.hid (HT.out.later hb1)
   obtain ⟨⟨r0,r1,r2,r3⟩,f0,f1,f2,f3⟩:=HT1.out.res
   clear CR CP HT hb1
   go_wp2
   refine bodyPost_ret (by simp [results,Tryz.results141,go_sem,r0,r1,r2,r3]; try rfl) rfl ?_
   exact ⟨rfl,below_set4 HT1.out.below⟩
abbrev put4 (W:World) (g:Nat) (x:Va):World:=(((W.setCell ⟨g,0,none⟩ (.int .i64 x.kind)).setCell ⟨g,1,none⟩ (.int .i64 x.num)).setCell ⟨g,2,none⟩ (.int .i64 x.den)).setCell ⟨g,3,none⟩ (.string ⟨x.str.toArray⟩)
structure Held (w W:World) (x:Va):Prop where
 below:Below w.heap.size w W
 lt:w.heap.size+1<W.heap.size
 res:ResV W w.heap.size
 val:BoxAt W (w.heap.size+1) x
theorem Two.put {w W:World} (h:Two w W) (x:Va):Held w (put4 W (w.heap.size+1) x) x:=by
 obtain ⟨hb,hlt,⟨⟨r0,r1,r2,r3⟩,f0,f1,f2,f3⟩,⟨c0,c1,c2,c3⟩,-⟩:=h
 refine ⟨(((hb.setCell (by simp) _).setCell (by simp) _).setCell (by simp) _).setCell (by simp) _,by simpa using hlt,⟨⟨?_,?_,?_,?_⟩,?_,?_,?_,?_⟩,?_,?_,?_,?_⟩ <;>
  simp [go_sem,c0,c1,c2,c3,r0,r1,r2,r3,f0,f1,f2,f3]
theorem Held.later {w W W':World} {x:Va} (h:Held w W x) (hb:Below W.heap.size W W'):Held w W' x :=
 ⟨h.below.trans (hb.mono h.below.size),Nat.lt_of_lt_of_le h.lt hb.size,h.res.later hb (by have:=h.lt; omega),h.val.later hb h.lt⟩
def NotQ (s:ByteArray):Prop:=¬ (Lib.hasPrefix s.data.toList [63]=true∧s.size≤4)
set_option maxHeartbeats 1600000 in
set_option maxRecDepth 100000 in
theorem read_ratN (s:ByteArray) (w:World) (hm:Ml w) (h1:s.data.toList ≠ sTrue) (h2:s.data.toList ≠ sFalse) (h3:NotQ s) (h4:s.size<40) (h5:Unq s) (hp:parseQ s.data.toList=none) :
  Calls Tryz.prog 141 #[.string s] w fun e w' => e=.returned (.tuple #[zeroV.v,.int .i64 7])∧Below w.heap.size w w':=by
 have e1:(s.toList == [116,114,117,101])=false:=by rw [ByteArray.toList_eq]; simpa using h1
 have e2:(s.toList == [102,97,108,115,101])=false:=by rw [ByteArray.toList_eq]; simpa using h2
 have CP:=Lib.hid (fun w1 => Tryz.strings_HasPrefix s ⟨#[63]⟩ w1)
 have CR:=Lib.hid (fun w1 => right_any zeroV w1)
 rw [right_zero] at CR
 have CQ:=Lib.hid (fun (w1:World) (hm:Ml w1) => parse_any s w1 (by omega) hm)
 rw [hp] at CQ
 obtain ⟨b,hb⟩:∃ b,Lib.hasPrefix s.data.toList [63]=b:=⟨_,rfl⟩
 have HT:=Lib.hid (Two.made w 59)
 simp only [hb] at CP
 have h3':b=false ∨ (b=true∧4<s.size):=by
  unfold NotQ at h3
  rw [hb] at h3
  cases b with
  | false => exact .inl rfl
  | true => exact .inr ⟨rfl,Nat.lt_of_not_le fun h => h3 ⟨rfl,h⟩⟩
 have HM:=Lib.hid (hm.later HT.out.below)
 clear h1 h2 hb h3 hp hm
 rcases h5 with h | ⟨h,q1⟩ | ⟨h,q1,q2⟩
 all_goals
  rcases h3' with rfl | ⟨rfl,h6⟩
  all_goals try (exfalso; omega)
  all_goals
   go_enter Tryz.func141,Tryz.ntmps141
   go_wp2_with fail
   refine (CP.out _).mono ?_
   rintro e w1 ⟨rfl,rfl⟩
   go_wp2_with fail
   refine (CQ.out _ HM.out).mono ?_
   rintro e w1 ⟨rfl,hb1⟩
   have HT1:=Lib.hid (HT.out.later hb1)
   obtain ⟨⟨v0,v1,v2,v3⟩,-⟩:=HT1.out.val
   go_wp2_with fail
   refine (CR.out _).mono ?_
   rintro e w2 ⟨rfl,hb2⟩
   have HT2:=Lib.hid (HT1.out.later hb2)
   obtain ⟨⟨r0,r1,r2,r3⟩,f0,f1,f2,f3⟩:=HT2.out.res
   clear CR CP CQ HT HT1 hb1 hb2 HM
   go_wp2
   refine bodyPost_ret (by simp [results,Tryz.results141,go_sem,r0,r1,r2,r3]; try rfl) rfl ?_
   exact ⟨rfl,below_set4 HT2.out.below⟩
set_option maxHeartbeats 3200000 in
set_option maxRecDepth 100000 in
theorem read_ratO (s:ByteArray) (q:Rat) (w:World) (hm:Ml w) (h1:s.data.toList ≠ sTrue) (h2:s.data.toList ≠ sFalse) (h3:NotQ s) (h4:s.size<40) (h5:Unq s) (hp:parseQ s.data.toList=some q)
  (hf:¬ (qnum q≤T40∧q.den≤T40)) :
  Calls Tryz.prog 141 #[.string s] w fun e w' => e=.returned (.tuple #[zeroV.v,.int .i64 7])∧Below w.heap.size w w':=by
 have e1:(s.toList == [116,114,117,101])=false:=by rw [ByteArray.toList_eq]; simpa using h1
 have e2:(s.toList == [102,97,108,115,101])=false:=by rw [ByteArray.toList_eq]; simpa using h2
 have CP:=Lib.hid (fun w1 => Tryz.strings_HasPrefix s ⟨#[63]⟩ w1)
 have CR:=Lib.hid (fun w1 => right_any zeroV w1)
 rw [right_zero] at CR
 have CQ:=Lib.hid (fun (w1:World) (hm:Ml w1) => parse_any s w1 (by omega) hm)
 rw [hp] at CQ
 have CV:=Lib.hid (fun (w1:World) (v:Value) (hv:IsR w1 v q) => value_over hv hf)
 obtain ⟨b,hb⟩:∃ b,Lib.hasPrefix s.data.toList [63]=b:=⟨_,rfl⟩
 have HT:=Lib.hid (Two.made w 59)
 simp only [hb] at CP
 have h3':b=false ∨ (b=true∧4<s.size):=by
  unfold NotQ at h3
  rw [hb] at h3
  cases b with
  | false => exact .inl rfl
  | true => exact .inr ⟨rfl,Nat.lt_of_not_le fun h => h3 ⟨rfl,h⟩⟩
 have HM:=Lib.hid (hm.later HT.out.below)
 clear h1 h2 hb h3 hp hm hf
 rcases h5 with h | ⟨h,q1⟩ | ⟨h,q1,q2⟩
 all_goals
  rcases h3' with rfl | ⟨rfl,h6⟩
  all_goals try (exfalso; omega)
  all_goals
   go_enter Tryz.func141,Tryz.ntmps141
   go_wp2_with fail
   refine (CP.out _).mono ?_
   rintro e w1 ⟨rfl,rfl⟩
   go_wp2_with fail
   refine (CQ.out _ HM.out).mono ?_
   rintro e w1 ⟨v,rfl,hv,hb1⟩
   have HT1:=Lib.hid (HT.out.later hb1)
   have CV1:=Lib.hid (CV.out _ _ hv)
   obtain ⟨g,vn,vd,rfl,-⟩:=hv
   go_wp2_with fail
   refine CV1.out.mono ?_
   rintro e w2 ⟨rfl,hb2⟩
   have HT2:=Lib.hid (HT1.out.later hb2)
   obtain ⟨⟨v0,v1,v2,v3⟩,-⟩:=HT2.out.val
   have hlt:=HT2.out.lt
   go_wp2_with fail
   refine (CR.out _).mono ?_
   rintro e w3 ⟨rfl,hb3⟩
   have HT3:=Lib.hid (HT2.out.later ((below_alloc _ _).trans (hb3.mono (by simp))))
   obtain ⟨⟨r0,r1,r2,r3⟩,f0,f1,f2,f3⟩:=HT3.out.res
   clear CR CP CQ HT HT1 HT2 hb1 hb2 hb3 HM CV CV1
   go_wp2
   refine bodyPost_ret (by simp [results,Tryz.results141,go_sem,r0,r1,r2,r3]; try rfl) rfl ?_
   exact ⟨rfl,below_set4 HT3.out.below⟩
set_option maxHeartbeats 3200000 in
set_option maxRecDepth 100000 in
theorem read_ratF (s:ByteArray) (q:Rat) (w:World) (hm:Ml w) (h1:s.data.toList ≠ sTrue) (h2:s.data.toList ≠ sFalse) (h3:NotQ s) (h4:s.size<40) (h5:Unq s) (hp:parseQ s.data.toList=some q)
  (hn:qnum q≤T40) (hd:q.den≤T40) :
  Calls Tryz.prog 141 #[.string s] w fun e w' => e=.returned (.tuple #[(ratV q).v,.int .i64 0])∧Below w.heap.size w w':=by
 have e1:(s.toList == [116,114,117,101])=false:=by rw [ByteArray.toList_eq]; simpa using h1
 have e2:(s.toList == [102,97,108,115,101])=false:=by rw [ByteArray.toList_eq]; simpa using h2
 have CP:=Lib.hid (fun w1 => Tryz.strings_HasPrefix s ⟨#[63]⟩ w1)
 have CR:=Lib.hid (fun w1 => right_any (ratV q) w1)
 rw [right_rat ⟨hn,hd⟩] at CR
 have CQ:=Lib.hid (fun (w1:World) (hm:Ml w1) => parse_any s w1 (by omega) hm)
 rw [hp] at CQ
 have CV:=Lib.hid (fun (w1:World) (v:Value) (hv:IsR w1 v q) => value_fit hv hn hd)
 obtain ⟨b,hb⟩:∃ b,Lib.hasPrefix s.data.toList [63]=b:=⟨_,rfl⟩
 have HT:=Lib.hid (Two.made w 59)
 simp only [hb] at CP
 have h3':b=false ∨ (b=true∧4<s.size):=by
  unfold NotQ at h3
  rw [hb] at h3
  cases b with
  | false => exact .inl rfl
  | true => exact .inr ⟨rfl,Nat.lt_of_not_le fun h => h3 ⟨rfl,h⟩⟩
 have HM:=Lib.hid (hm.later HT.out.below)
 clear h1 h2 hb h3 hp hm hn hd
 rcases h5 with h | ⟨h,q1⟩ | ⟨h,q1,q2⟩
 all_goals
  rcases h3' with rfl | ⟨rfl,h6⟩
  all_goals try (exfalso; omega)
  all_goals
   go_enter Tryz.func141,Tryz.ntmps141
   go_wp2_with fail
   refine (CP.out _).mono ?_
   rintro e w1 ⟨rfl,rfl⟩
   go_wp2_with fail
   refine (CQ.out _ HM.out).mono ?_
   rintro e w1 ⟨v,rfl,hv,hb1⟩
   have HT1:=Lib.hid (HT.out.later hb1)
   have CV1:=Lib.hid (CV.out _ _ hv)
   obtain ⟨g,vn,vd,rfl,-⟩:=hv
   go_wp2_with fail
   refine CV1.out.mono ?_
   rintro e w2 ⟨rfl,hb2⟩
   have HT2:=Lib.hid (HT1.out.later hb2)
   obtain ⟨⟨v0,v1,v2,v3⟩,j0,j1,j2,j3⟩:=HT2.out.val
   have hlt:=HT2.out.lt
   go_wp2_with fail
   have HH:=Lib.hid (((HT2.out.put (ratV q)).later (below_alloc _ (.cells #[.int .i64 2,.int .i64 q.num,.int .i64 q.den,.string ⟨#[]⟩] 59))))
   refine (CR.out _).mono ?_
   rintro e w3 ⟨rfl,hb3⟩
   have HH3:=Lib.hid (HH.out.later hb3)
   obtain ⟨k0,k1,k2,k3⟩:=HH3.out.val
   obtain ⟨⟨r0,r1,r2,r3⟩,f0,f1,f2,f3⟩:=HH3.out.res
   clear CR CP CQ HT HT1 HT2 hb1 hb2 hb3 HM CV CV1 HH v0 v1 v2 v3 j0 j1 j2 j3
   go_wp2
   refine bodyPost_ret (by simp [results,Tryz.results141,go_sem,r0,r1,r2,r3]; try rfl) rfl ?_
   exact ⟨rfl,below_set4 HH3.out.below⟩
theorem extract_tail (s:ByteArray):(s.extract 1 s.size).data.toList=s.data.toList.drop 1:=by
 have h:(s.extract 1 s.size).data.toList=(s.data.toList.drop 1).take (s.size - 1):=by
  rw [ByteArray.data_extract,Array.toList_extract]
 rw [h,List.take_of_length_le]
 rw [List.length_drop,lenB]; exact Nat.le_refl _
theorem extract_inner (s:ByteArray):(s.extract 1 (s.size - 1)).data.toList=inner s.data.toList:=by
 have h:(s.extract 1 (s.size - 1)).data.toList=(s.data.toList.drop 1).take (s.size - 1 - 1):=by
  rw [ByteArray.data_extract,Array.toList_extract]
 rw [h]
 unfold inner
 rw [List.dropLast_eq_take,List.length_drop,lenB]
set_option maxHeartbeats 3200000 in
set_option maxRecDepth 100000 in
theorem read_missN (s:ByteArray) (w:World) (h1:s.data.toList ≠ sTrue) (h2:s.data.toList ≠ sFalse) (h3:Lib.hasPrefix s.data.toList [63]=true) (h4:s.size≤4) (hp:parseD (s.data.toList.drop 1)=none) :
  Calls Tryz.prog 141 #[.string s] w fun e w' => e=.returned (.tuple #[zeroV.v,.int .i64 7])∧Below w.heap.size w w':=by
 have e1:(s.toList == [116,114,117,101])=false:=by rw [ByteArray.toList_eq]; simpa using h1
 have e2:(s.toList == [102,97,108,115,101])=false:=by rw [ByteArray.toList_eq]; simpa using h2
 have CP:=Lib.hid (fun w1 => Tryz.strings_HasPrefix s ⟨#[63]⟩ w1)
 simp only [h3] at CP
 have CR:=Lib.hid (fun w1 => right_any zeroV w1)
 rw [right_zero] at CR
 have h5:1≤s.size:=by
  have:=(hasPrefix_one _ _).1 h3
  rcases Nat.eq_zero_or_pos s.size with h | h
  ·have e:s.data.toList=[]:=List.eq_nil_of_length_eq_zero (by rw [lenB]; exact h)
   rw [e] at this; simp at this
  ·exact h
 have CN:=Lib.hid (fun w1 => natText_any w1 (s.extract 1 s.size) (by rw [ByteArray.size_extract]; omega))
 rw [extract_tail,hp] at CN
 have HT:=Lib.hid (Two.made w 59)
 clear h1 h2 h3 hp
 go_enter Tryz.func141,Tryz.ntmps141
 go_wp2_with fail
 refine (CP.out _).mono ?_
 rintro e w1 ⟨rfl,rfl⟩
 go_wp2_with fail
 refine (CN.out _).mono ?_
 rintro e w1 ⟨rfl,hb1⟩
 have HT1:=Lib.hid (HT.out.later hb1)
 obtain ⟨⟨v0,v1,v2,v3⟩,-⟩:=HT1.out.val
 go_wp2_with fail
 refine (CR.out _).mono ?_
 rintro e w2 ⟨rfl,hb2⟩
 have HT2:=Lib.hid (HT1.out.later hb2)
 obtain ⟨⟨r0,r1,r2,r3⟩,f0,f1,f2,f3⟩:=HT2.out.res
 clear CR CP CN HT HT1 hb1 hb2
 go_wp2
 refine bodyPost_ret (by simp [results,Tryz.results141,go_sem,r0,r1,r2,r3]; try rfl) rfl ?_
 exact ⟨rfl,below_set4 HT2.out.below⟩
set_option maxHeartbeats 3200000 in
set_option maxRecDepth 100000 in
theorem read_missS (s:ByteArray) (n:Nat) (w:World) (h1:s.data.toList ≠ sTrue) (h2:s.data.toList ≠ sFalse) (h3:Lib.hasPrefix s.data.toList [63]=true) (h4:s.size≤4) (hp:parseD (s.data.toList.drop 1)=some n) :
  Calls Tryz.prog 141 #[.string s] w fun e w' => e=.returned (readE (missV n))∧Below w.heap.size w w':=by
 have e1:(s.toList == [116,114,117,101])=false:=by rw [ByteArray.toList_eq]; simpa using h1
 have e2:(s.toList == [102,97,108,115,101])=false:=by rw [ByteArray.toList_eq]; simpa using h2
 have CP:=Lib.hid (fun w1 => Tryz.strings_HasPrefix s ⟨#[63]⟩ w1)
 simp only [h3] at CP
 have CR:=Lib.hid (fun w1 => right_any (missV n) w1)
 obtain ⟨b,hb⟩:∃ b,rightV (missV n)=b:=⟨_,rfl⟩
 unfold readE
 rw [hb] at CR ⊢
 have h5:1≤s.size:=by
  have:=(hasPrefix_one _ _).1 h3
  rcases Nat.eq_zero_or_pos s.size with h | h
  ·have e:s.data.toList=[]:=List.eq_nil_of_length_eq_zero (by rw [lenB]; exact h)
   rw [e] at this; simp at this
  ·exact h
 have CN:=Lib.hid (fun w1 => natText_any w1 (s.extract 1 s.size) (by rw [ByteArray.size_extract]; omega))
 rw [extract_tail,hp] at CN
 have hn:n≤T40:=by
  have e:=(parseD_iff _ _).1 hp
  have h6:(dec n).length≤3:=by rw [← e,List.length_drop,lenB]; omega
  have h7:=(dec_parts n).2.2.2
  have h8:=dval_lt (dec n) (dec_parts n).2.2.1
  rw [h7] at h8
  have h9:10 ^ (dec n).length≤10 ^ 3:=Nat.pow_le_pow_right (by decide) h6
  unfold T40; omega
 have CS:=Lib.hid (fun (w1:World) (v:Value) (hv:IsN B32 w1 v n) => short_small hv hn)
 have CM:=Lib.hid (fun w1 => missing_any (n:Int) w1)
 have HT:=Lib.hid (Two.made w 59)
 clear h1 h2 h3 hp hn hb
 go_enter Tryz.func141,Tryz.ntmps141
 go_wp2_with fail
 refine (CP.out _).mono ?_
 rintro e w1 ⟨rfl,rfl⟩
 go_wp2_with fail
 refine (CN.out _).mono ?_
 rintro e w1 ⟨v,rfl,hv,hb1⟩
 have HT1:=Lib.hid (HT.out.later hb1)
 have CS1:=Lib.hid (CS.out _ _ hv)
 obtain ⟨a1,n1,p1,hs1,-⟩:=hv.shape (by decide)
 subst hs1
 clear hv
 go_wp2_with fail
 refine CS1.out.mono ?_
 rintro e w2 ⟨rfl,hb2⟩
 have HT2:=Lib.hid (HT1.out.later hb2)
 go_wp2_with (go_at_call 173; refine (CM.out _).mono ?_; rintro e w3 ⟨rfl,hb3⟩; have HT3:=Lib.hid (HT2.out.later hb3); obtain ⟨⟨v0,v1,v2,v3⟩,j0,j1,j2,j3⟩:=HT3.out.val)
 have HH:=Lib.hid (HT3.out.put (missV n))
 refine (CR.out _).mono ?_
 rintro e w4 ⟨rfl,hb4⟩
 have HH3:=Lib.hid (HH.out.later hb4)
 obtain ⟨k0,k1,k2,k3⟩:=HH3.out.val
 obtain ⟨⟨r0,r1,r2,r3⟩,f0,f1,f2,f3⟩:=HH3.out.res
 clear CR CP CN CS CS1 CM HT HT1 HT2 HT3 hb1 hb2 hb3 hb4 HH v0 v1 v2 v3 j0 j1 j2 j3
 cases b
 ·go_wp2
  refine bodyPost_ret (by simp [results,Tryz.results141,go_sem,r0,r1,r2,r3]; try rfl) rfl ?_
  exact ⟨rfl,below_set4 HH3.out.below⟩
 ·go_wp2
  refine bodyPost_ret (by simp [results,Tryz.results141,go_sem,r0,r1,r2,r3]; try rfl) rfl ?_
  exact ⟨rfl,below_set4 HH3.out.below⟩
set_option maxHeartbeats 3200000 in
set_option maxRecDepth 100000 in
theorem read_text (s:ByteArray) (w:World) (hm:Ml w) (h1:s.data.toList ≠ sTrue) (h2:s.data.toList ≠ sFalse) (hs:s.size≤20000) (hq:quoted s.data.toList) :
  Calls Tryz.prog 141 #[.string s] w fun e w' => e=.returned (readE (readText s.data.toList))∧Below w.heap.size w w':=by
 have e1:(s.toList == [116,114,117,101])=false:=by rw [ByteArray.toList_eq]; simpa using h1
 have e2:(s.toList == [102,97,108,115,101])=false:=by rw [ByteArray.toList_eq]; simpa using h2
 have hq2:2≤s.size:=by have:=hq.1; rwa [lenB] at this
 obtain ⟨q1',q2'⟩:=(quoted_iff s hq2).1 hq
 have q1:=byte39.2 q1'
 have q2:=byte39.2 q2'
 have CP:=Lib.hid (fun w1 => Tryz.strings_HasPrefix s ⟨#[63]⟩ w1)
 have hpre:Lib.hasPrefix s.data.toList [63]=false:=by
  rw [Bool.eq_false_iff]; intro e
  have:=(hasPrefix_one _ _).1 e
  rw [hq.2.1] at this; cases this
 simp only [hpre] at CP
 obtain ⟨L,hL⟩:∃ L,inner s.data.toList=L:=⟨_,rfl⟩
 have hLe:(s.extract 1 (s.size - 1)).data.toList=L:=by rw [extract_inner,hL]
 have hLl:L.length≤20000:=by rw [← hLe,lenB,ByteArray.size_extract]; omega
 have C1:=Lib.hid (fun (w1:World) (hm:Ml w1) => let ⟨m,h⟩:=hm; Tryz.strings_ReplaceAll (s.extract 1 (s.size - 1)) ⟨#[39,39]⟩ ⟨#[39]⟩ m w1 (by rw [ByteArray.size_extract]; omega) h (by decide) (by
  have:=Lib.countB_le ⟨#[39,39]⟩ (by decide) (s.extract 1 (s.size - 1)).size (s.extract 1 (s.size - 1)) (Nat.le_refl _)
  rw [ByteArray.size_extract] at *
  have e:(ByteArray.mk #[39]).size=1:=rfl
  rw [e]; omega))
 have C2:=Lib.hid (fun (w1:World) (hm:Ml w1) => let ⟨m,h⟩:=hm; Tryz.strings_ReplaceAll ⟨(undb L).toArray⟩ ⟨#[39]⟩ ⟨#[39,39]⟩ m w1 (by have:=undb_len L; simp [ByteArray.size]; omega) h (by decide) (by
  have h8:=undb_len L
  have:=Lib.countB_le ⟨#[39]⟩ (by decide) (undb L).length ⟨(undb L).toArray⟩ (by simp [ByteArray.size])
  have e:(ByteArray.mk #[39,39]).size=2:=rfl
  have e2:(ByteArray.mk (undb L).toArray).size=(undb L).length:=by simp [ByteArray.size]
  rw [e,e2]; rw [e2] at this; omega))
 have hL2:=ra_undb L
 have hL3:=ra_dbl (undb L)
 simp only [hLe] at C1
 have HT:=Lib.hid (Two.made w 59)
 have HM:=Lib.hid (hm.later HT.out.below)
 have HL2:=Lib.hid hL2
 have HL3:=Lib.hid hL3
 have HLe:=Lib.hid hLe
 unfold readText
 rw [hL]
 obtain ⟨R,hR⟩:∃ R,readE (if dbl (undb L)=L then textV (undb L) else zeroV)=R:=⟨_,rfl⟩
 rw [hR]
 have HR:=Lib.hid hR
 clear hR
 have CR:=Lib.hid (fun w1 => right_any zeroV w1)
 rw [right_zero] at CR
 have CT:=Lib.hid (fun w1 => right_any (textV (undb L)) w1)
 obtain ⟨b,hb⟩:∃ b,rightV (textV (undb L))=b:=⟨_,rfl⟩
 rw [hb] at CT
 have HBB:=Lib.hid hb
 clear hb
 clear h1 h2 hq q1' q2' hL2 hL3 hpre hL hLe hm
 go_enter Tryz.func141,Tryz.ntmps141
 go_wp2_with fail
 refine (CP.out _).mono ?_
 rintro e w1 ⟨rfl,rfl⟩
 go_wp2_with fail
 refine (C1.out _ HM.out).mono ?_
 rintro e w1 ⟨rfl,hb1⟩
 have HT1:=Lib.hid (HT.out.later hb1)
 have HM1:=Lib.hid (HM.out.later hb1)
 rw [HL2.out]
 go_wp2_with fail
 refine (C2.out _ HM1.out).mono ?_
 rintro e w2 ⟨rfl,hb2⟩
 have HT2:=Lib.hid (HT1.out.later hb2)
 rw [HL3.out]
 obtain ⟨⟨v0,v1,v2,v3⟩,j0,j1,j2,j3⟩:=HT2.out.val
 clear CP C1 C2 HT HM HT1 HM1 hb1 hb2
 by_cases hE:dbl (undb L)=L
 ·have hE':(dbl (undb L) == (s.extract 1 (s.size - 1)).toList)=true:=by rw [ByteArray.toList_eq,HLe.out]; simpa using hE
  have HR2:=HR.out
  rw [if_pos hE] at HR2
  unfold readE at HR2
  rw [HBB.out] at HR2
  have HR3:=Lib.hid HR2
  clear hE CR HR HR2
  go_wp2_with fail
  have HH:=Lib.hid (HT2.out.put (textV (undb L)))
  refine (CT.out _).mono ?_
  rintro e w4 ⟨rfl,hb4⟩
  have HH3:=Lib.hid (HH.out.later hb4)
  obtain ⟨k0,k1,k2,k3⟩:=HH3.out.val
  obtain ⟨⟨r0,r1,r2,r3⟩,f0,f1,f2,f3⟩:=HH3.out.res
  clear CT HT2 hb4 HH v0 v1 v2 v3 j0 j1 j2 j3
  cases b
  ·go_wp2
   refine bodyPost_ret (by simp [results,Tryz.results141,go_sem,r0,r1,r2,r3]; try rfl) rfl ?_
   exact ⟨by rw [← HR3.out]; rfl,below_set4 HH3.out.below⟩
  ·go_wp2
   refine bodyPost_ret (by simp [results,Tryz.results141,go_sem,r0,r1,r2,r3]; try rfl) rfl ?_
   exact ⟨by rw [← HR3.out]; rfl,below_set4 HH3.out.below⟩
 ·have hE':(dbl (undb L) == (s.extract 1 (s.size - 1)).toList)=false:=by rw [ByteArray.toList_eq,HLe.out]; simpa using hE
  have HR2:=HR.out
  rw [if_neg hE] at HR2
  unfold readE at HR2
  rw [right_zero] at HR2
  have HR3:=Lib.hid HR2
  clear hE CT HR HR2
  go_wp2_with fail
  refine (CR.out _).mono ?_
  rintro e w4 ⟨rfl,hb4⟩
  have HT3:=Lib.hid (HT2.out.later hb4)
  obtain ⟨⟨r0,r1,r2,r3⟩,f0,f1,f2,f3⟩:=HT3.out.res
  clear CR HT2 hb4 v0 v1 v2 v3 j0 j1 j2 j3
  go_wp2
  refine bodyPost_ret (by simp [results,Tryz.results141,go_sem,r0,r1,r2,r3]; try rfl) rfl ?_
  exact ⟨by rw [← HR3.out]; rfl,below_set4 HT3.out.below⟩
theorem read_any (s:ByteArray) (w:World) (hm:Ml w) (hs:s.size≤20000) :
  Calls Tryz.prog 141 #[.string s] w fun e w' => e=.returned (readE (readM s.data.toList))∧Below w.heap.size w w':=by
 unfold readM
 by_cases h1:s.data.toList=sTrue
 ·rw [if_pos h1]
  have e:s=⟨#[116,114,117,101]⟩:=bytes_eq h1
  subst e
  exact read_true w
 rw [if_neg h1]
 by_cases h2:s.data.toList=sFalse
 ·rw [if_pos h2]
  have e:s=⟨#[102,97,108,115,101]⟩:=bytes_eq h2
  subst e
  exact read_false w
 rw [if_neg h2,lenB]
 by_cases h3:Lib.hasPrefix s.data.toList [63]=true∧s.size≤4
 ·rw [if_pos h3]
  unfold readMiss
  cases hp:parseD (s.data.toList.drop 1) with
  | none => exact read_missN s w h1 h2 h3.1 h3.2 hp
  | some n => exact read_missS s n w h1 h2 h3.1 h3.2 hp
 rw [if_neg h3]
 by_cases hq:quoted s.data.toList
 ·rw [if_pos hq]; exact read_text s w hm h1 h2 hs hq
 rw [if_neg hq]
 by_cases h4:s.size<40
 ·rw [if_pos h4]
  unfold readRat
  cases hp:parseQ s.data.toList with
  | none => exact read_ratN s w hm h1 h2 h3 h4 (unq_of hq) hp
  | some q =>
   by_cases hf:qnum q≤T40∧q.den≤T40
   ·simp only [if_pos hf]
    have e:readE (ratV q)=.tuple #[(ratV q).v,.int .i64 0]:=by unfold readE; rw [right_rat ⟨hf.1,hf.2⟩]; rfl
    rw [e]
    exact read_ratF s q w hm h1 h2 h3 h4 (unq_of hq) hp hf.1 hf.2
   ·simp only [if_neg hf]
    exact read_ratO s q w hm h1 h2 h3 h4 (unq_of hq) hp hf
 ·rw [if_neg h4]
  exact read_none s w h1 h2 (by omega) hs (unq_of hq)
end Go.Proofs.YtdbnebhehiiakaaGreatDoor
