/- Lemmas and contracts, each under its own condition: The reference of layer 2, contracts: letter, further, Name, bounds, Last. The reference of layer 2, contracts: Dims, taken. The reference of layer 2, contracts: taken, Schema. The reference of layer 2, contracts: Of, Cell. -/
import Derived.BigQuiet
import Derived.Test.YtdbnebhehiiakaaGreatDoorS3
import Derived.Test.YtdbnebhehiiakaaGreatDoorS4
import Derived.Test.YtdbnebhehiiakaaGreatDoorS5
namespace Go.Proofs.YtdbnebhehiiakaaGreatDoor
open Go.RowKit
theorem rletter_any (x:Int) (w:World):Calls Tryz.prog 161 #[.int .u8 x] w (RetV' (.bool (decide (97≤x∧x≤122))) w):=by
 have hcase:x<97 ∨ (97≤x∧x≤122) ∨ (97≤x∧122<x):=by omega
 rcases hcase with h | ⟨h,h'⟩ | ⟨h,h'⟩
 ·rw [show decide (97≤x∧x≤122)=false from decide_eq_false (by omega)]
  have a1:decide (97≤x)=false:=decide_eq_false (by omega)
  go_enter Tryz.func161,Tryz.ntmps161
  go_wp2
  go_ret
  exact ⟨rfl,Below.refl _ _⟩
 ·rw [show decide (97≤x∧x≤122)=true from decide_eq_true (by omega)]
  have a2:decide (x≤122)=true:=decide_eq_true h'
  go_enter Tryz.func161,Tryz.ntmps161
  go_wp2
  go_ret
  exact ⟨rfl,Below.refl _ _⟩
 ·rw [show decide (97≤x∧x≤122)=false from decide_eq_false (by omega)]
  have a2:decide (x≤122)=false:=decide_eq_false (by omega)
  go_enter Tryz.func161,Tryz.ntmps161
  go_wp2
  go_ret
  exact ⟨rfl,Below.refl _ _⟩
def furI (x:Int):Bool:=decide (97≤x∧x≤122 ∨ 48≤x∧x≤57 ∨ x=95)
theorem rfurther_any (x:Int) (w:World):Calls Tryz.prog 162 #[.int .u8 x] w (RetV' (.bool (furI x)) w):=by
 have C:=Lib.hid (fun w1 => rletter_any x w1)
 have hcase:x<48 ∨ (48≤x∧x≤57) ∨ (57<x∧x<97) ∨ (97≤x∧x≤122) ∨ 122<x:=by omega
 unfold furI
 rcases hcase with h | ⟨h,h'⟩ | ⟨h,h'⟩ | ⟨h,h'⟩ | h
 ·rw [show decide (97≤x∧x≤122 ∨ 48≤x∧x≤57 ∨ x=95)=false from decide_eq_false (by omega)]
  rw [show decide (97≤x∧x≤122)=false from decide_eq_false (by omega)] at C
  have a1:decide (48≤x)=false:=decide_eq_false (by omega)
  have a3:(x == 95)=false:=by rw [beq_eq_false_iff_ne]; omega
  go_enter Tryz.func162,Tryz.ntmps162
  go_wp2_with fail
  refine (C.out _).mono ?_
  rintro e w1 ⟨rfl,hb⟩
  have HB:=Lib.hid hb
  go_wp2
  go_ret
  exact ⟨rfl,HB.out⟩
 ·rw [show decide (97≤x∧x≤122 ∨ 48≤x∧x≤57 ∨ x=95)=true from decide_eq_true (by omega)]
  rw [show decide (97≤x∧x≤122)=false from decide_eq_false (by omega)] at C
  have a1:decide (48≤x)=true:=decide_eq_true (by omega)
  have a2:decide (x≤57)=true:=decide_eq_true (by omega)
  go_enter Tryz.func162,Tryz.ntmps162
  go_wp2_with fail
  refine (C.out _).mono ?_
  rintro e w1 ⟨rfl,hb⟩
  have HB:=Lib.hid hb
  go_wp2
  go_ret
  exact ⟨rfl,HB.out⟩
 ·rw [show decide (97≤x∧x≤122 ∨ 48≤x∧x≤57 ∨ x=95)=(x == 95) from by rw [show (x == 95)=decide (x=95) from rfl,decide_eq_decide]; omega]
  rw [show decide (97≤x∧x≤122)=false from decide_eq_false (by omega)] at C
  have a1:decide (48≤x)=true:=decide_eq_true (by omega)
  have a2:decide (x≤57)=false:=decide_eq_false (by omega)
  go_enter Tryz.func162,Tryz.ntmps162
  go_wp2_with fail
  refine (C.out _).mono ?_
  rintro e w1 ⟨rfl,hb⟩
  have HB:=Lib.hid hb
  go_wp2
  go_ret
  exact ⟨rfl,HB.out⟩
 ·rw [show decide (97≤x∧x≤122 ∨ 48≤x∧x≤57 ∨ x=95)=true from decide_eq_true (by omega)]
  rw [show decide (97≤x∧x≤122)=true from decide_eq_true (by omega)] at C
  go_enter Tryz.func162,Tryz.ntmps162
  go_wp2_with fail
  refine (C.out _).mono ?_
  rintro e w1 ⟨rfl,hb⟩
  have HB:=Lib.hid hb
  go_wp2
  go_ret
  exact ⟨rfl,HB.out⟩
 ·rw [show decide (97≤x∧x≤122 ∨ 48≤x∧x≤57 ∨ x=95)=false from decide_eq_false (by omega)]
  rw [show decide (97≤x∧x≤122)=false from decide_eq_false (by omega)] at C
  have a1:decide (48≤x)=true:=decide_eq_true (by omega)
  have a2:decide (x≤57)=false:=decide_eq_false (by omega)
  have a3:(x == 95)=false:=by rw [beq_eq_false_iff_ne]; omega
  go_enter Tryz.func162,Tryz.ntmps162
  go_wp2_with fail
  refine (C.out _).mono ?_
  rintro e w1 ⟨rfl,hb⟩
  have HB:=Lib.hid hb
  go_wp2
  go_ret
  exact ⟨rfl,HB.out⟩
theorem small_byte (c:UInt8):smallB c=decide (97≤(c.toNat:Int)∧(c.toNat:Int)≤122):=by
 unfold smallB
 rw [Bool.decide_and]
 congr 1 <;> rw [decide_eq_decide] <;> omega
theorem further_byte (c:UInt8):furtherB c=furI (c.toNat:Int):=by
 unfold furtherB furI
 rw [small_byte,Bool.eq_iff_iff]
 simp only [Bool.or_eq_true,Bool.and_eq_true,decide_eq_true_eq]
 omega
theorem rname_long (S:ByteArray) (w:World) (h1:S.size≤9223372036854775807) (h:S.size<1 ∨ 12<S.size) :
  Calls Tryz.prog 124 #[.string S] w (RetV' (.bool false) w):=by
 rcases h with h | h
 ·have h2:decide ((S.size:Int)<1)=true:=decide_eq_true (by omega)
  clear h
  go_enter Tryz.func124,Tryz.ntmps124
  go_wp2
  go_ret
  exact ⟨rfl,Below.refl _ _⟩
 ·have h2:decide ((S.size:Int)<1)=false:=decide_eq_false (by omega)
  have h3:decide ((12:Int)<S.size)=true:=decide_eq_true (by omega)
  clear h
  go_enter Tryz.func124,Tryz.ntmps124
  go_wp2
  go_ret
  exact ⟨rfl,Below.refl _ _⟩
theorem rname_first (S:ByteArray) (w:World) (h1:1≤S.size) (h12:S.size≤12) (hf:∀ hi:0<S.size,smallB S[0]=false) :
  Calls Tryz.prog 124 #[.string S] w (RetV' (.bool false) w):=by
 have h2:decide ((S.size:Int)<1)=false:=decide_eq_false (by omega)
 have h3:decide ((12:Int)<S.size)=false:=decide_eq_false (by omega)
 have C:=Lib.hid (fun (hi:0<S.size) w1 => by
  have:=rletter_any (S[0].toNat:Int) w1
  rwa [← small_byte,hf hi] at this)
 clear hf
 go_enter Tryz.func124,Tryz.ntmps124
 go_wp2_with fail
 refine (C.out (by omega) _).mono ?_
 rintro e w1 ⟨rfl,hb⟩
 have HB:=Lib.hid hb
 go_wp2
 go_ret
 exact ⟨rfl,HB.out⟩
theorem all_take {l:List UInt8} {i:Nat} {c:UInt8} (h:l[i]? = some c):(l.take (i+1)).all furtherB=((l.take i).all furtherB && furtherB c):=by
 rw [take_snoc' h,List.all_append]; simp
set_option maxHeartbeats 1600000 in
theorem rname_core (S:ByteArray) (w:World) (h1:1≤S.size) (h12:S.size≤12) (hf:∀ hi:0<S.size,smallB S[0]=true) :
  Calls Tryz.prog 124 #[.string S] w (RetV' (.bool (S.data.toList.all furtherB)) w):=by
 have h2:decide ((S.size:Int)<1)=false:=decide_eq_false (by omega)
 have h3:decide ((12:Int)<S.size)=false:=decide_eq_false (by omega)
 have C:=Lib.hid (fun (hi:0<S.size) w1 => by
  have:=rletter_any (S[0].toNat:Int) w1
  rwa [← small_byte,hf hi] at this)
 have HLN:Hid (S.data.toList.length=S.size):=rfl
 clear hf
 go_enter Tryz.func124,Tryz.ntmps124
 go_wp2_with fail
 refine (C.out (by omega) _).mono ?_
 rintro e w1 ⟨rfl,hb⟩
 have HB1:=Lib.hid hb
 clear hb C
 go_wp2
 go_loopw [3] (fun iv wr => ∃ i:Nat,i≤S.size∧iv=.int .i64 (i:Nat)∧Hid ((S.data.toList.take i).all furtherB=true)∧Below w.heap.size w wr) (fun iv _ => S.size - (intOf iv).toNat)
 case atStart => exact ⟨0,Nat.zero_le _,rfl,rfl,HB1.out⟩
 case round =>
  obtain ⟨i,hi,rfl,HN,hbw⟩:=hrel
  have HBW:=Lib.hid hbw
  clear hbw
  by_cases hlt:i<S.size
  ·have hc:S.data.toList[i]? = some S[i]:=List.getElem?_eq_getElem (by rw [HLN.out]; exact hlt)
   have HT:=Lib.hid (all_take hc)
   have HI1:Hid (i+1≤S.size):=hlt
   have HI2:Hid (S.size - (i+1)<S.size - i):=by show _<_; omega
   have ib0:(0:Int)≤(i:Int):=by omega
   have ib1:(i:Int)<(S.size:Int):=by omega
   have C:=Lib.hid (fun (hi:i<S.size) w1 => by
    have:=rfurther_any (S[i].toNat:Int) w1
    rwa [← further_byte] at this)
   have HF:Hid ((S.data.toList.all furtherB=false) ∨ furtherB S[i]=true):=by
    show _ ∨ _
    cases hq:furtherB S[i] with
    | true => exact .inr rfl
    | false =>
     refine .inl ?_
     rw [List.all_eq_false]
     exact ⟨S[i],List.mem_of_getElem? hc,by rw [hq]; decide⟩
   clear hc
   go_wp2_with fail
   refine (C.out (by omega) _).mono ?_
   rintro e w2 ⟨rfl,hb⟩
   have HB2:=Lib.hid (HBW.out.trans (hb.mono HBW.out.size))
   clear hb C
   cases hq:furtherB S[i] with
   | false =>
    have HQ:=Lib.hid hq
    clear hq
    go_wp2
    go_ret
    refine ⟨?_,HB2.out⟩
    rcases HF.out with h | h
    ·rw [h]; rfl
    ·rw [HQ.out] at h; cases h
   | true =>
    have HQ:=Lib.hid hq
    clear hq
    go_wp2
    refine ⟨⟨i+1,HI1.out,by go_num,?_,HB2.out⟩,HI2.out⟩
    show _=_
    rw [HT.out,HN.out,Bool.true_and]; exact HQ.out
  ·obtain rfl:i=S.size:=by omega
   go_wp2
   go_ret
   refine ⟨?_,HBW.out⟩
   have:=HN.out
   rw [← HLN.out,List.take_length] at this
   rw [this]; rfl
theorem rname_any (l:List UInt8) (w:World) (hl:l.length≤9223372036854775807):Calls Tryz.prog 124 #[strV l] w (RetV' (.bool (nameB l)) w):=by
 obtain ⟨S,hS⟩:∃ S:ByteArray,S=⟨l.toArray⟩:=⟨_,rfl⟩
 have hL:S.data.toList=l:=by rw [hS]
 have hz:S.size=l.length:=by rw [hS]; rfl
 show Calls Tryz.prog 124 #[.string ⟨l.toArray⟩] w _
 rw [nameB_eq,← hS]
 by_cases h:l.length<1 ∨ 12<l.length
 ·have:(decide (1≤l.length) && decide (l.length≤12))=false:=by
   rw [Bool.and_eq_false_iff,decide_eq_false_iff_not,decide_eq_false_iff_not]; omega
  rw [this,Bool.false_and,Bool.false_and]
  exact rname_long S w (by omega) (by omega)
 ·have:(decide (1≤l.length) && decide (l.length≤12))=true:=by
   rw [Bool.and_eq_true,decide_eq_true_eq,decide_eq_true_eq]; omega
  rw [this,Bool.true_and]
  cases l with
  | nil => simp at h
  | cons c r =>
   have h0:∀ hi:0<S.size,S[0]=c:=fun hi => by
    have e1:S.data.toList[0]? = some S[0]:=List.getElem?_eq_getElem (by exact hi)
    rw [hL] at e1
    exact (Option.some.inj e1).symm
   simp only
   cases hc:smallB c with
   | false =>
    rw [Bool.false_and]
    exact rname_first S w (by omega) (by omega) (fun hi => by rw [h0 hi]; exact hc)
   | true =>
    rw [Bool.true_and,← hL]
    exact rname_core S w (by omega) (by omega) (fun hi => by rw [h0 hi]; exact hc)
set_option maxRecDepth 100000 in
theorem rbounds_any (d:DimT) (w:World):Calls Tryz.prog 160 #[dimV d] w (RetV' (.bool (boundsB d)) w):=by
 have HB:=Lib.hid (below_alloc w (.cells #[.string ⟨d.name.toArray⟩,.int .i64 d.lo,.int .i64 d.hi] 74))
 obtain ⟨nm,lo,hi⟩:=d
 unfold boundsB
 simp only at HB ⊢
 by_cases h1 : -1073741824≤lo
 ·rw [decide_eq_true h1,Bool.true_and]
  by_cases h2:lo≤1073741824
  ·rw [decide_eq_true h2,Bool.true_and]
   by_cases h3:lo≤hi
   ·rw [decide_eq_true h3,Bool.true_and]
    have a1:decide (-1073741824≤lo)=true:=decide_eq_true h1
    have a2:decide (lo≤1073741824)=true:=decide_eq_true h2
    have a3:decide (lo≤hi)=true:=decide_eq_true h3
    clear h1 h2 h3
    go_enter Tryz.func160,Tryz.ntmps160
    go_wp2
    go_ret
    exact ⟨rfl,HB.out⟩
   ·rw [decide_eq_false h3,Bool.false_and]
    have a1:decide (-1073741824≤lo)=true:=decide_eq_true h1
    have a2:decide (lo≤1073741824)=true:=decide_eq_true h2
    have a3:decide (lo≤hi)=false:=decide_eq_false h3
    clear h1 h2 h3
    go_enter Tryz.func160,Tryz.ntmps160
    go_wp2
    go_ret
    exact ⟨rfl,HB.out⟩
  ·rw [decide_eq_false h2,Bool.false_and,Bool.false_and]
   have a1:decide (-1073741824≤lo)=true:=decide_eq_true h1
   have a2:decide (lo≤1073741824)=false:=decide_eq_false h2
   clear h1 h2
   go_enter Tryz.func160,Tryz.ntmps160
   go_wp2
   go_ret
   exact ⟨rfl,HB.out⟩
 ·rw [decide_eq_false h1,Bool.false_and,Bool.false_and,Bool.false_and]
  have a1:decide (-1073741824≤lo)=false:=decide_eq_false h1
  clear h1
  go_enter Tryz.func160,Tryz.ntmps160
  go_wp2
  go_ret
  exact ⟨rfl,HB.out⟩
theorem rlast_any (d:DimT) (w:World):Calls Tryz.prog 163 #[dimV d] w (RetV' (.int .i64 d.last) w):=by
 obtain ⟨n,lo,hi⟩:=d
 have e:DimT.last ⟨n,lo,hi⟩=min hi 1073741824:=by
  unfold DimT.last
  simp only
  split <;> omega
 rw [e]
 clear e
 go_enter Tryz.func163,Tryz.ntmps163
 go_wp2
 go_ret
 exact ⟨rfl,below_alloc _ _⟩
theorem dimsL_drop {met:List (List UInt8)} {d:List DimT} {i:Nat} {x:DimT} (h:d[i]? = some x) :
  dimsL met (d.drop i)=if nameB x.name=false ∨ x.name ∈ met then 11 else if boundsB x=false then 3 else dimsL (met ++ [x.name]) (d.drop (i+1)):=by rw [drop_cons h,dimsL]
theorem rdims_long (d:List DimT) (v:Value) (w:World) (hd:Dims w v d) (h:d.length<1 ∨ 4<d.length) :
  Calls Tryz.prog 123 #[v] w (RetV' (.int .i64 13) w):=by
 obtain ⟨a,cap,rfl,c1,c2⟩:=hd.shape
 clear hd
 rcases h with h | h
 ·have h2:((d.length:Int)<1):=by omega
  clear h
  go_enter Tryz.func123,Tryz.ntmps123
  go_wp2
  go_ret
  exact ⟨rfl,Below.refl _ _⟩
 ·have h2:¬ ((d.length:Int)<1):=by omega
  have h3:((4:Int)<d.length):=by omega
  clear h
  go_enter Tryz.func123,Tryz.ntmps123
  go_wp2
  go_ret
  exact ⟨rfl,Below.refl _ _⟩
set_option maxHeartbeats 3200000 in
set_option maxRecDepth 100000 in
theorem rdims_core (d:List DimT) (v:Value) (w:World) (hd:Dims w v d) (h1:1≤d.length) (h4:d.length≤4) (hs:StrD d) :
  Calls Tryz.prog 123 #[v] w (RetV' (.int .i64 (dimsL [] d)) w):=by
 have h5:¬ ((d.length:Int)<1):=by omega
 have h6:¬ ((4:Int)<d.length):=by omega
 have HD:=Lib.hid hd
 have HS:=Lib.hid hs
 obtain ⟨a,cap,rfl,c1,c2⟩:=hd.shape
 clear hd hs
 go_enter Tryz.func123,Tryz.ntmps123
 go_wp2
 go_loopw [3] (fun iv wr => ∃ i:Nat,i≤d.length∧iv=.int .i64 (i:Nat)∧Hid (dimsL (names (d.take i)) (d.drop i)=dimsL [] d)∧Below w.heap.size w wr) (fun iv _ => d.length - (intOf iv).toNat)
 case atStart => exact ⟨0,Nat.zero_le _,rfl,rfl,Below.refl _ _⟩
 case round =>
  obtain ⟨i,hi,rfl,HN,hbw⟩:=hrel
  have HBW:=Lib.hid hbw
  have HDW:=Lib.hid (HD.out.later DimR.lasts hbw)
  clear hbw
  by_cases hlt:i<d.length
  ·obtain ⟨g,o,x,ea,hx,hr⟩:=HDW.out.at i hlt
   subst ea
   obtain ⟨x0,x1,x2⟩:=hr
   have HX:=Lib.hid hx
   have hn:=HN.out
   rw [dimsL_drop hx] at hn
   have HNN:=Lib.hid hn
   have HXS:=Lib.hid (HS.out x (List.mem_of_getElem? hx))
   have HI1:Hid (i+1≤d.length):=hlt
   have HI2:Hid (d.length - (i+1)<d.length - i):=by show _<_; omega
   have ib0:(0:Int)≤(i:Int):=by omega
   have ib1:(i:Int)<(d.length:Int):=by omega
   obtain ⟨nm,lo,hi'⟩:=x
   simp only at x0 x1 x2
   have CN:=Lib.hid (fun w1 => rname_any nm w1 HXS.out)
   clear hx hn
   cases hnb:nameB nm with
   | false =>
    have HR:Hid (dimsL [] d=11):=by show _=_; rw [← HNN.out,if_pos (.inl hnb)]
    simp only [hnb] at CN
    clear hnb
    go_wp2_with fail
    refine (CN.out _).mono ?_
    rintro e w1 ⟨rfl,hb1⟩
    have HB1:=Lib.hid (HBW.out.trans (hb1.mono HBW.out.size))
    clear hb1 CN
    go_wp2
    go_ret
    rw [HR.out]
    exact ⟨rfl,HB1.out⟩
   | true =>
    simp only [hnb] at CN
    have HNB:=Lib.hid hnb
    clear hnb
    go_wp2_with fail
    refine (CN.out _).mono ?_
    rintro e w1 ⟨rfl,hb1⟩
    have HB1:=Lib.hid (HBW.out.trans (hb1.mono HBW.out.size))
    clear hb1 CN x0 x1 x2 HDW
    go_wp2
    go_loopw [4] (fun kv wk => ∃ k:Nat,k≤i∧kv=.int .i64 (k:Nat)∧Hid (nm ∉ names (d.take k))∧Below w.heap.size w wk) (fun kv _ => i - (intOf kv).toNat)
    case atStart => exact ⟨0,Nat.zero_le _,rfl,(by intro h; cases h),HB1.out⟩
    case round =>
     obtain ⟨k,hk,rfl,HM,hbk⟩:=hrel
     have HBK:=Lib.hid hbk
     have HDK:=Lib.hid (HD.out.later DimR.lasts hbk)
     clear hbk
     by_cases hki:k<i
     ·obtain ⟨g2,o2,y,ea,hy,hr⟩:=HDK.out.at k (by omega)
      obtain ⟨g3,o3,x3,ea3,hx3,hr3⟩:=HDK.out.at i (by omega)
      cases ea3
      cases ea
      rw [HX.out] at hx3
      cases hx3
      have y0:=hr.name
      have x0:=hr3.name
      have HY:=Lib.hid hy
      obtain ⟨ny,ylo,yhi⟩:=y
      simp only at y0 x0
      have kb0:(0:Int)≤(k:Int):=by omega
      have kb1:(k:Int)<(d.length:Int):=by omega
      have kb2:(k:Int)<(i:Int):=by omega
      have HK1:Hid (k+1≤i):=hki
      have HK2:Hid (i - (k+1)<i - k):=by show _<_; omega
      clear hr hr3 hy HDK
      by_cases e:ny=nm
      ·have HR:Hid (dimsL [] d=11):=by
        show _=_
        have hmem:nm ∈ names (d.take i):=List.mem_map.2 ⟨_,List.mem_of_getElem? (l:=d.take i) (i:=k) (by rw [List.getElem?_take_of_lt HK1.out]; exact HY.out),e⟩
        rw [← HNN.out,if_pos (.inr hmem)]
       subst e
       go_wp2_with fail
       go_quiet (fail)
       go_wp2
       go_ret
       rw [HR.out]
       exact ⟨rfl,below_keep HBK.out (below_drewN' _ _)⟩
      ·have HE:=Lib.hid e
       have e':(ny == nm)=false:=beq_eq_false_iff_ne.2 e
       clear e
       go_wp2_with fail
       go_quiet (fail)
       go_wp2
       refine ⟨⟨k+1,HK1.out,by go_num,?_,below_keep HBK.out (below_drewN' _ _)⟩,HK2.out⟩
       show ¬ _
       rw [names_snoc HY.out,List.mem_append,List.mem_singleton]
       exact fun h => h.elim HM.out fun h => HE.out h.symm
     ·obtain rfl:k=i:=by omega
      obtain ⟨g3,o3,x3,ea3,hx3,hr3⟩:=HDK.out.at k hlt
      cases ea3
      rw [HX.out] at hx3
      cases hx3
      obtain ⟨x0,x1,x2⟩:=hr3
      simp only at x0 x1 x2
      have CB:=Lib.hid (fun w1 => rbounds_any ⟨nm,lo,hi'⟩ w1)
      clear HDK hki
      have hn:=HNN.out
      rw [if_neg (fun h => h.elim (fun h => by rw [HNB.out] at h; cases h) (fun h => HM.out h))] at hn
      cases hb:boundsB ⟨nm,lo,hi'⟩ with
      | false =>
       have HR:Hid (dimsL [] d=3):=by show _=_; rw [← hn,if_pos hb]
       rw [hb] at CB
       clear hb hn
       go_wp2_with fail
       refine (CB.out _).mono ?_
       rintro e w5 ⟨rfl,hb1⟩
       have HB5:=Lib.hid (HBK.out.trans (hb1.mono HBK.out.size))
       clear hb1 CB
       go_wp2
       go_ret
       rw [HR.out]
       exact ⟨rfl,HB5.out⟩
      | true =>
       have HR:Hid (dimsL (names (d.take k) ++ [nm]) (d.drop (k+1))=dimsL [] d):=by show _=_; rw [← hn,if_neg (by rw [hb]; decide)]
       rw [hb] at CB
       clear hb hn
       go_wp2_with fail
       refine (CB.out _).mono ?_
       rintro e w5 ⟨rfl,hb1⟩
       have HB5:=Lib.hid (HBK.out.trans (hb1.mono HBK.out.size))
       clear hb1 CB
       go_wp2
       refine ⟨⟨k+1,HI1.out,by go_num,?_,HB5.out⟩,HI2.out⟩
       show _=_
       rw [names_snoc HX.out]
       exact HR.out
  ·obtain rfl:i=d.length:=by omega
   have hn:=HN.out
   rw [List.drop_length,dimsL] at hn
   have HNN:=Lib.hid hn
   clear hn HN
   go_wp2
   go_ret
   rw [← HNN.out]
   exact ⟨rfl,HBW.out⟩
theorem rdims_any (d:List DimT) (v:Value) (w:World) (hd:Dims w v d) (hs:StrD d) :
  Calls Tryz.prog 123 #[v] w (RetV' (.int .i64 (dimsE d)) w):=by
 unfold dimsE
 by_cases h:d.length<1 ∨ 4<d.length
 ·rw [if_pos h]
  exact rdims_long d v w hd h
 ·rw [if_neg h]
  exact rdims_core d v w hd (by omega) (by omega) hs
set_option maxHeartbeats 3200000 in
set_option maxRecDepth 100000 in
theorem taken_any (d:List DimT) (a:List AttrT) (n:Nat) (nm:List UInt8) (v u:Value) (w:World) (hd:Dims w v d) (ha:Attrs w u a) (hn:n≤a.length) :
  Calls Tryz.prog 125 #[v,u,.int .i64 (n:Nat),strV nm] w (RetV' (.bool (decide (nm ∈ names d ++ anames (a.take n)))) w):=by
 have HD:=Lib.hid hd
 have HA:=Lib.hid ha
 have HN:=Lib.hid hn
 obtain ⟨av,cap,rfl,c1,c2⟩:=hd.shape
 obtain ⟨au,capu,rfl,u1,u2⟩:=ha.shape
 obtain ⟨R,hR⟩:∃ R,R=decide (nm ∈ names d ++ anames (a.take n)):=⟨_,rfl⟩
 rw [← hR]
 have HR:=Lib.hid hR
 have hn9:(n:Int)≤9223372036854775807:=by omega
 clear hd ha hn hR
 go_enter Tryz.func125,Tryz.ntmps125
 go_wp2
 go_loopw [9] (fun iv wr => ∃ i:Nat,i≤d.length∧iv=.int .i64 (i:Nat)∧Hid (nm ∉ names (d.take i))∧wr=w) (fun iv _ => d.length - (intOf iv).toNat)
 case atStart => exact ⟨0,Nat.zero_le _,rfl,(by intro h; cases h),rfl⟩
 case round =>
  obtain ⟨i,hi,rfl,HM,rfl⟩:=hrel
  by_cases hlt:i<d.length
  ·obtain ⟨g,o,x,ea,hx,hr⟩:=HD.out.at i hlt
   subst ea
   have x0:=hr.name
   have HX:=Lib.hid hx
   obtain ⟨nx,lo,hi'⟩:=x
   simp only at x0
   have HI1:Hid (i+1≤d.length):=hlt
   have HI2:Hid (d.length - (i+1)<d.length - i):=by show _<_; omega
   have ib0:(0:Int)≤(i:Int):=by omega
   have ib1:(i:Int)<(d.length:Int):=by omega
   clear hr hx
   by_cases e:nx=nm
   ·have HE:Hid (R=true):=by
     show _=_
     rw [HR.out,decide_eq_true_eq,List.mem_append]
     exact .inl (List.mem_map.2 ⟨_,List.mem_of_getElem? HX.out,e⟩)
    subst e
    go_wp2
    go_ret
    rw [HE.out]
    exact ⟨rfl,Below.refl _ _⟩
   ·have HE:=Lib.hid e
    have e':(nx == nm)=false:=beq_eq_false_iff_ne.2 e
    clear e
    go_wp2
    refine ⟨⟨i+1,HI1.out,by go_num,?_,trivial⟩,HI2.out⟩
    show ¬ _
    rw [names_snoc HX.out,List.mem_append,List.mem_singleton]
    exact fun h => h.elim HM.out fun h => HE.out h.symm
  ·obtain rfl:i=d.length:=by omega
   have hm:=HM.out
   rw [List.take_length] at hm
   have HMD:=Lib.hid hm
   clear hm HM
   go_wp2
   go_loopw [10] (fun kv wk => ∃ k:Nat,k≤n∧kv=.int .i64 (k:Nat)∧Hid (nm ∉ anames (a.take k))∧wk=wr) (fun kv _ => n - (intOf kv).toNat)
   case atStart => exact ⟨0,Nat.zero_le _,rfl,(by intro h; cases h),rfl⟩
   case round =>
    obtain ⟨k,hk,rfl,HM,rfl⟩:=hrel
    by_cases hkn:k<n
    ·obtain ⟨g,o,x,ea,hx,hr⟩:=HA.out.at k (Nat.lt_of_lt_of_le hkn HN.out)
     subst ea
     have x0:=hr.name
     have HX:=Lib.hid hx
     obtain ⟨nx,ty⟩:=x
     simp only at x0
     have HI1:Hid (k+1≤n):=hkn
     have HI2:Hid (n - (k+1)<n - k):=by show _<_; omega
     have ib0:(0:Int)≤(k:Int):=by omega
     have ib1:(k:Int)<(n:Int):=by omega
     have ib2:(k:Int)<(a.length:Int):=by have:=HN.out; omega
     clear hr hx
     by_cases e:nx=nm
     ·have HE:Hid (R=true):=by
       show _=_
       rw [HR.out,decide_eq_true_eq,List.mem_append]
       refine .inr (List.mem_map.2 ⟨_,List.mem_of_getElem? (l:=a.take n) (i:=k) (by rw [List.getElem?_take_of_lt HI1.out]; exact HX.out),e⟩)
      subst e
      go_wp2
      go_ret
      rw [HE.out]
      exact ⟨rfl,Below.refl _ _⟩
     ·have HE:=Lib.hid e
      have e':(nx == nm)=false:=beq_eq_false_iff_ne.2 e
      clear e
      go_wp2
      refine ⟨⟨k+1,HI1.out,by go_num,?_,trivial⟩,HI2.out⟩
      show ¬ _
      rw [anames_snoc HX.out,List.mem_append,List.mem_singleton]
      exact fun h => h.elim HM.out fun h => HE.out h.symm
    ·obtain rfl:k=n:=by omega
     go_wp2
     go_ret
     have:R=false:=by
      rw [HR.out,decide_eq_false_iff_not,List.mem_append]
      exact fun h => h.elim HMD.out HM.out
     rw [this]
     exact ⟨rfl,Below.refl _ _⟩
theorem rschema_bad (d:List DimT) (v u:Value) (w:World) (hd:Dims w v d) (hs:StrD d) (h:dimsE d ≠ 0) :
  Calls Tryz.prog 79 #[v,u] w (RetV' (.int .i64 (dimsE d)) w):=by
 have C:=Lib.hid (fun w1 (hb:Below w.heap.size w w1) => rdims_any d v w1 (hd.later DimR.lasts hb) hs)
 have hne:(dimsE d != 0)=true:=by rw [bne_iff_ne]; exact h
 clear hd hs h
 go_enter Tryz.func79,Tryz.ntmps79
 go_wp2_with fail
 refine (C.out _ (Below.refl _ _)).mono ?_
 rintro e w1 ⟨rfl,hb⟩
 have HB:=Lib.hid hb
 clear hb C
 go_wp2
 go_ret
 exact ⟨rfl,HB.out⟩
theorem rschema_many (d:List DimT) (a:List AttrT) (v u:Value) (w:World) (hd:Dims w v d) (ha:Attrs w u a) (hs:StrD d) (h:dimsE d=0) (h2:a.length<1 ∨ 6<a.length) :
  Calls Tryz.prog 79 #[v,u] w (RetV' (.int .i64 9) w):=by
 have C:=Lib.hid (fun w1 (hb:Below w.heap.size w w1) => h ▸ rdims_any d v w1 (hd.later DimR.lasts hb) hs)
 obtain ⟨au,capu,rfl,u1,u2⟩:=ha.shape
 clear hd hs h
 rcases h2 with h | h
 ·have h2:((a.length:Int)<1):=by omega
  clear h
  go_enter Tryz.func79,Tryz.ntmps79
  go_wp2_with fail
  refine (C.out _ (Below.refl _ _)).mono ?_
  rintro e w1 ⟨rfl,hb⟩
  have HB:=Lib.hid hb
  clear hb C
  go_wp2
  go_ret
  exact ⟨rfl,HB.out⟩
 ·have h2:¬ ((a.length:Int)<1):=by omega
  have h3:((6:Int)<a.length):=by omega
  clear h
  go_enter Tryz.func79,Tryz.ntmps79
  go_wp2_with fail
  refine (C.out _ (Below.refl _ _)).mono ?_
  rintro e w1 ⟨rfl,hb⟩
  have HB:=Lib.hid hb
  clear hb C
  go_wp2
  go_ret
  exact ⟨rfl,HB.out⟩
set_option maxHeartbeats 3200000 in
set_option maxRecDepth 100000 in
theorem rschema_good (d:List DimT) (a:List AttrT) (v u:Value) (w:World) (hd:Dims w v d) (ha:Attrs w u a) (hs:StrD d) (hsa:StrA a) (h:dimsE d=0) (h1:1≤a.length) (h2:a.length≤6) :
  Calls Tryz.prog 79 #[v,u] w (RetV' (.int .i64 (attrsL (names d) a)) w):=by
 have C:=Lib.hid (fun w1 (hb:Below w.heap.size w w1) => h ▸ rdims_any d v w1 (hd.later DimR.lasts hb) hs)
 have HD:=Lib.hid hd
 have HA:=Lib.hid ha
 have HS:=Lib.hid hsa
 obtain ⟨av,cap,rfl,c1,c2⟩:=hd.shape
 obtain ⟨au,capu,rfl,u1,u2⟩:=ha.shape
 have h5:¬ ((a.length:Int)<1):=by omega
 have h6:¬ ((6:Int)<a.length):=by omega
 obtain ⟨R,hR⟩:∃ R,R=attrsL (names d) a:=⟨_,rfl⟩
 rw [← hR]
 have HR:=Lib.hid hR
 clear hd ha hs h hsa hR
 go_enter Tryz.func79,Tryz.ntmps79
 go_wp2_with fail
 refine (C.out _ (Below.refl _ _)).mono ?_
 rintro e w1 ⟨rfl,hb⟩
 have HB1:=Lib.hid hb
 clear hb C
 go_wp2
 go_loopw [6] (fun iv wr => ∃ i:Nat,i≤a.length∧iv=.int .i64 (i:Nat)∧Hid (attrsL (names d ++ anames (a.take i)) (a.drop i)=R)∧Below w.heap.size w wr) (fun iv _ => a.length - (intOf iv).toNat)
 case atStart => exact ⟨0,Nat.zero_le _,rfl,(by show _=_; rw [HR.out]; simp [anames]),HB1.out⟩
 case round =>
  obtain ⟨i,hi,rfl,HN,hbw⟩:=hrel
  have HBW:=Lib.hid hbw
  have HDW:=Lib.hid (HD.out.later DimR.lasts hbw)
  have HAW:=Lib.hid (HA.out.later AttrR.lasts hbw)
  clear hbw
  by_cases hlt:i<a.length
  ·obtain ⟨g,o,x,ea,hx,hr⟩:=HAW.out.at i hlt
   subst ea
   obtain ⟨x0,x1⟩:=hr
   have HX:=Lib.hid hx
   have hn:=HN.out
   rw [attrs_drop _ hx] at hn
   have HNN:=Lib.hid hn
   have HXS:=Lib.hid (HS.out x (List.mem_of_getElem? hx))
   have HI1:Hid (i+1≤a.length):=hlt
   have HI2:Hid (a.length - (i+1)<a.length - i):=by show _<_; omega
   have ib0:(0:Int)≤(i:Int):=by omega
   have ib1:(i:Int)<(a.length:Int):=by omega
   obtain ⟨nm,ty⟩:=x
   simp only at x0 x1
   have CN:=Lib.hid (fun w1 => rname_any nm w1 HXS.out)
   clear hx hn
   cases hnb:nameB nm with
   | false =>
    have HE:Hid (R=11):=by show _=_; rw [← HNN.out,if_pos (.inl hnb)]
    simp only [hnb] at CN
    clear hnb
    go_wp2_with fail
    refine (CN.out _).mono ?_
    rintro e w2 ⟨rfl,hb1⟩
    have HB2:=Lib.hid (HBW.out.trans (hb1.mono HBW.out.size))
    clear hb1 CN
    go_wp2
    go_ret
    rw [HE.out]
    exact ⟨rfl,HB2.out⟩
   | true =>
    simp only [hnb] at CN
    have HNB:=Lib.hid hnb
    clear hnb
    have CT:=Lib.hid (fun w2 (hb:Below wr.heap.size wr w2) => taken_any d a i nm _ _ w2 (HDW.out.later DimR.lasts hb) (HAW.out.later AttrR.lasts hb) hi)
    by_cases hmem:nm ∈ names d ++ anames (a.take i)
    ·have HE:Hid (R=11):=by show _=_; rw [← HNN.out,if_pos (.inr hmem)]
     rw [decide_eq_true hmem] at CT
     clear hmem
     go_wp2_with fail
     refine (CN.out _).mono ?_
     rintro e w2 ⟨rfl,hb1⟩
     have HB2:=Lib.hid (HBW.out.trans (hb1.mono HBW.out.size))
     have HBr:=Lib.hid hb1
     have x0:=cell_later x0 hb1
     clear hb1 CN
     go_wp2_with fail
     refine (CT.out _ HBr.out).mono ?_
     rintro e w3 ⟨rfl,hb1⟩
     have HB3:=Lib.hid (HB2.out.trans (hb1.mono HB2.out.size))
     clear hb1 CT
     go_wp2
     go_ret
     rw [HE.out]
     exact ⟨rfl,HB3.out⟩
    ·have hn1:=HNN.out
     rw [if_neg (fun h => h.elim (fun h => by rw [HNB.out] at h; cases h) hmem)] at hn1
     rw [decide_eq_false hmem] at CT
     clear hmem
     have hcase:ty<1 ∨ (1≤ty∧4<ty) ∨ (1≤ty∧ty≤4):=by omega
     rcases hcase with b1 | ⟨b1,b2⟩ | ⟨b1,b2⟩
     ·have HE:Hid (R=12):=by show _=_; rw [← hn1,if_pos (.inl b1)]
      have t1:decide (ty<1)=true:=decide_eq_true b1
      clear hn1 b1
      go_wp2_with fail
      refine (CN.out _).mono ?_
      rintro e w2 ⟨rfl,hb1⟩
      have HB2:=Lib.hid (HBW.out.trans (hb1.mono HBW.out.size))
      have HBr:=Lib.hid hb1
      have x0:=cell_later x0 hb1
      have x1:=cell_later x1 hb1
      clear hb1 CN
      go_wp2_with fail
      refine (CT.out _ HBr.out).mono ?_
      rintro e w3 ⟨rfl,hb1⟩
      have HB3:=Lib.hid (HB2.out.trans (hb1.mono HB2.out.size))
      have x1:=cell_later x1 hb1
      clear hb1 CT
      go_wp2
      go_ret
      rw [HE.out]
      exact ⟨rfl,HB3.out⟩
     ·have HE:Hid (R=12):=by show _=_; rw [← hn1,if_pos (.inr b2)]
      have t1:decide (ty<1)=false:=decide_eq_false (by omega)
      have t2:decide (4<ty)=true:=decide_eq_true b2
      clear hn1 b1 b2
      go_wp2_with fail
      refine (CN.out _).mono ?_
      rintro e w2 ⟨rfl,hb1⟩
      have HB2:=Lib.hid (HBW.out.trans (hb1.mono HBW.out.size))
      have HBr:=Lib.hid hb1
      have x0:=cell_later x0 hb1
      have x1:=cell_later x1 hb1
      clear hb1 CN
      go_wp2_with fail
      refine (CT.out _ HBr.out).mono ?_
      rintro e w3 ⟨rfl,hb1⟩
      have HB3:=Lib.hid (HB2.out.trans (hb1.mono HB2.out.size))
      have x1:=cell_later x1 hb1
      clear hb1 CT
      go_wp2
      go_ret
      rw [HE.out]
      exact ⟨rfl,HB3.out⟩
     ·have HE:Hid (attrsL (names d ++ anames (a.take i) ++ [nm]) (a.drop (i+1))=R):=by show _=_; rw [← hn1,if_neg (by simp only; omega)]
      have t1:decide (ty<1)=false:=decide_eq_false (by omega)
      have t2:decide (4<ty)=false:=decide_eq_false (by omega)
      clear hn1 b1 b2
      go_wp2_with fail
      refine (CN.out _).mono ?_
      rintro e w2 ⟨rfl,hb1⟩
      have HB2:=Lib.hid (HBW.out.trans (hb1.mono HBW.out.size))
      have HBr:=Lib.hid hb1
      have x0:=cell_later x0 hb1
      have x1:=cell_later x1 hb1
      clear hb1 CN
      go_wp2_with fail
      refine (CT.out _ HBr.out).mono ?_
      rintro e w3 ⟨rfl,hb1⟩
      have HB3:=Lib.hid (HB2.out.trans (hb1.mono HB2.out.size))
      have x1:=cell_later x1 hb1
      clear hb1 CT
      go_wp2
      refine ⟨⟨i+1,HI1.out,by go_num,?_,HB3.out⟩,HI2.out⟩
      show _=_
      rw [anames_snoc HX.out,← List.append_assoc]
      exact HE.out
  ·obtain rfl:i=a.length:=by omega
   have hn:=HN.out
   rw [List.drop_length,attrsL] at hn
   have HNN:=Lib.hid hn
   clear hn HN
   go_wp2
   go_ret
   rw [← HNN.out]
   exact ⟨rfl,HBW.out⟩
theorem rschema_any (d:List DimT) (a:List AttrT) (v u:Value) (w:World) (hd:Dims w v d) (ha:Attrs w u a) (hs:StrD d) (hsa:StrA a) :
  Calls Tryz.prog 79 #[v,u] w (RetV' (.int .i64 (schemaE d a)) w):=by
 unfold schemaE
 by_cases h:dimsE d=0
 ·rw [if_neg (not_not_intro h)]
  by_cases h2:a.length<1 ∨ 6<a.length
  ·rw [if_pos h2]
   exact rschema_many d a v u w hd ha hs h h2
  ·rw [if_neg h2]
   exact rschema_good d a v u w hd ha hs hsa h (by omega) (by omega)
 ·rw [if_pos h]
  exact rschema_bad d v u w hd hs h
theorem rof_short (d:List DimT) (c:List Int) (v u:Value) (w:World) (hd:Dims w v d) (hc:Ints w u c) (h:c.length ≠ d.length) :
  Calls Tryz.prog 126 #[v,u] w (RetV' (.bool false) w):=by
 obtain ⟨a,cap,rfl,c1,c2⟩:=hd.shape
 obtain ⟨a',cap',rfl,c1',c2'⟩:=hc.shape
 have h2:((c.length:Int) != d.length)=true:=by rw [bne_iff_ne]; omega
 clear hd hc h
 go_enter Tryz.func126,Tryz.ntmps126
 go_wp2
 go_ret
 exact ⟨rfl,Below.refl _ _⟩
set_option maxHeartbeats 3200000 in
set_option maxRecDepth 100000 in
theorem rof_core (d:List DimT) (c:List Int) (v u:Value) (w:World) (hd:Dims w v d) (hc:Ints w u c) (h:c.length=d.length) :
  Calls Tryz.prog 126 #[v,u] w (RetV' (.bool (ofL d c)) w):=by
 have HD:=Lib.hid hd
 have HC:=Lib.hid hc
 have HL:=Lib.hid h
 have hl:=hd.len
 obtain ⟨a,cap,rfl,c1,c2⟩:=hd.shape
 obtain ⟨a',cap',rfl,c1',c2'⟩:=hc.shape
 obtain ⟨R,hR⟩:∃ R,R=ofL d c:=⟨_,rfl⟩
 rw [← hR]
 have HR0:=Lib.hid hR
 simp only [h] at c1' HC ⊢
 clear hd hc h hR
 go_enter Tryz.func126,Tryz.ntmps126
 go_wp2
 go_loopw [5] (fun iv wr => ∃ i:Nat,i≤d.length∧iv=.int .i64 (i:Nat)∧Hid (ofL (d.drop i) (c.drop i)=R)∧Below w.heap.size w wr) (fun iv _ => d.length - (intOf iv).toNat)
 case atStart => exact ⟨0,Nat.zero_le _,rfl,HR0.out.symm,Below.refl _ _⟩
 case round =>
  obtain ⟨i,hi,rfl,HN,hb⟩:=hrel
  have HB:=Lib.hid hb
  have HDW:=Lib.hid (HD.out.later DimR.lasts hb)
  have HCW:=Lib.hid (HC.out.later IntR.lasts hb)
  clear hb
  by_cases hlt:i<d.length
  ·obtain ⟨g,o,x,ea,hx,hr⟩:=HDW.out.at i hlt
   obtain ⟨g',o',y,ea',hy,hr'⟩:=HCW.out.at i (by rw [HL.out]; exact hlt)
   subst ea ea'
   obtain ⟨x0,x1,x2⟩:=hr
   rw [Nat.mul_one] at hr'
   unfold IntR at hr'
   have hn:=HN.out
   rw [ofL_drop hx hy] at hn
   have HNN:=Lib.hid hn
   have HI1:Hid (i+1≤d.length):=hlt
   have HI2:Hid (d.length - (i+1)<d.length - i):=by show _<_; omega
   have ib0:(0:Int)≤(i:Int):=by omega
   have ib1:(i:Int)<(d.length:Int):=by omega
   obtain ⟨nm,lo,hi'⟩:=x
   simp only at x0 x1 x2
   have CL:=Lib.hid (fun w1 => rlast_any ⟨nm,lo,hi'⟩ w1)
   generalize hL:DimT.last ⟨nm,lo,hi'⟩=L at CL HNN
   simp only at HNN
   clear hL hx hy hn HN
   by_cases h1:y<lo
   ·have HR:Hid (R=false):=by show _=_; rw [← HNN.out,if_pos (.inl h1)]
    have t1:decide (y<lo)=true:=decide_eq_true h1
    clear h1
    go_wp2_with fail
    go_quiet (fail)
    go_wp2
    go_ret
    rw [HR.out]
    exact ⟨rfl,below_keep HB.out (below_drewN' _ _)⟩
   ·have t1:decide (y<lo)=false:=decide_eq_false h1
    have K:Hid (∀ w',Below wr.heap.size wr w'→w'.cell? ⟨g',o'+i,none⟩=some (.int .i64 y)∧w'.cell? ⟨g,o+i * 3,none⟩=some (.string ⟨nm.toArray⟩)∧w'.cell? ⟨g,o+i * 3+1,none⟩=some (.int .i64 lo)∧w'.cell? ⟨g,o+i * 3+2,none⟩=some (.int .i64 hi')∧Below wr.heap.size wr w'):=fun w' h => ⟨cell_later hr' h,cell_later x0 h,cell_later x1 h,cell_later x2 h,h⟩
    have HJ:Hid (if L<y then R=false else ofL (d.drop (i+1)) (c.drop (i+1))=R):=by
     show ite _ _ _
     split
     ·rename_i h2; rw [← HNN.out,if_pos (.inr h2)]
     ·rename_i h2; rw [← HNN.out,if_neg (fun h => h.elim h1 h2)]
    clear h1 x0 x1 x2 hr' HNN
    go_wp2_with fail
    go_region_held3 (fun w' => w'.cell? ⟨g',o'+i,none⟩=some (.int .i64 y)∧w'.cell? ⟨g,o+i * 3,none⟩=some (.string ⟨nm.toArray⟩)∧w'.cell? ⟨g,o+i * 3+1,none⟩=some (.int .i64 lo)∧w'.cell? ⟨g,o+i * 3+2,none⟩=some (.int .i64 hi')∧Below wr.heap.size wr w')
     (first | exact K.out _ (Below.refl _ _).drew | exact K.out _ (by assumption))
     ((go_at_call 163; refine (CL.out _).mono ?_; rintro e w2 ⟨rfl,hb2⟩; have hb3:Below wr.heap.size wr w2:=below_keep (Below.refl _ _).drew hb2))
    all_goals
     have HB3:=Lib.hid (HB.out.trans (hb3.mono HB.out.size))
     clear hb2 hb3 CL
     by_cases h2:L<y
     ·have hj:=HJ.out
      rw [if_pos h2] at hj
      have HR:=Lib.hid hj
      clear hj HJ
      go_wp2
      go_ret
      rw [HR.out]
      exact ⟨rfl,HB3.out⟩
     ·have hj:=HJ.out
      rw [if_neg h2] at hj
      have HR:=Lib.hid hj
      clear hj HJ
      go_wp2
      exact ⟨⟨i+1,HI1.out,by go_num,HR.out,HB3.out⟩,HI2.out⟩
  ·obtain rfl:i=d.length:=by omega
   have hn:=HN.out
   rw [List.drop_length,ofL] at hn
   ·have HNN:=Lib.hid hn
    clear hn HN
    go_wp2
    go_ret
    rw [← HNN.out]
    exact ⟨rfl,HB.out⟩
   ·intro _ _ _ _ h; cases h
theorem rof_any (d:List DimT) (c:List Int) (v u:Value) (w:World) (hd:Dims w v d) (hc:Ints w u c) :
  Calls Tryz.prog 126 #[v,u] w (RetV' (.bool (ofB d c)) w):=by
 unfold ofB
 by_cases h:c.length=d.length
 ·rw [decide_eq_true h,Bool.true_and]
  exact rof_core d c v u w hd hc h
 ·rw [decide_eq_false h,Bool.false_and]
  exact rof_short d c v u w hd hc h
end Go.Proofs.YtdbnebhehiiakaaGreatDoor
