/- Lemmas and contracts, each under its own condition: Contract: natText. Contracts: strings.Builder's copyCheck and WriteString over this program; the digits of a number as a string of chunks. -/
import Derived.Test.YtdbnebhehiiakaaGreatDoorN0
import Derived.Test.YtdbnebhehiiakaaGreatDoorN3
import Derived.Test.YtdbnebhehiiakaaGreatDoorShlf
namespace Go.Proofs.YtdbnebhehiiakaaGreatDoor
open Go.RowKit
theorem lenB (s:ByteArray):s.data.toList.length=s.size:=by rw [Array.length_toList]; rfl
theorem take_snocB (s:ByteArray) (k:Nat) (h:k<s.size):s.data.toList.take (k+1)=s.data.toList.take k ++ [s[k]]:=by
 rw [List.take_succ_eq_append_getElem (by simpa using h)]; rfl
structure NtIn (l:List UInt8) (k i F D:Nat):Prop where
 pow:F=10 ^ (i - k)
 val:dval (l.take i)=dval (l.take k) * F+D
 dig:(l.take i).all isD=true
 le:k≤i
theorem NtIn.start {l:List UInt8} {k:Nat} (h:(l.take k).all isD=true):NtIn l k k 1 0:=⟨by simp,by simp,h,Nat.le_refl _⟩
theorem NtIn.step {s:ByteArray} {k i F D:Nat} (h:NtIn s.data.toList k i F D) (hi:i<s.size) (hd:isD s[i]=true):NtIn s.data.toList k (i+1) (10 * F) (10 * D+(s[i].toNat - 48)):=by
 have hle:=h.le
 refine ⟨?_,?_,?_,by omega⟩
 ·rw [h.pow,show i+1 - k=(i - k)+1 from by omega,Nat.pow_succ,Nat.mul_comm]
 ·rw [take_snocB s i hi,dval_snoc,h.val,Nat.mul_add,Nat.mul_left_comm,Nat.add_assoc]
 ·rw [take_snocB s i hi,List.all_append,h.dig]; simpa using hd
theorem pow_next {j:Nat} (h:10 ^ j<1000000000):10 * 10 ^ j≤1000000000:=by
 have:j<9:=(Nat.pow_lt_pow_iff_right (by decide:1<10)).1 (show 10 ^ j<10 ^ 9 from h)
 have:10 ^ (j+1)≤10 ^ 9:=Nat.pow_le_pow_right (by decide) (by omega)
 rw [Nat.pow_succ] at this; omega
theorem dval_lt (l:List UInt8) (h:l.all isD=true):dval l<10 ^ l.length:=by
 generalize hn:l.length=n
 induction n generalizing l with
 | zero => rw [List.length_eq_zero_iff.1 hn]; simp [dval]
 | succ n ih =>
  rcases snoc_cases l with rfl | ⟨xs,c,rfl⟩
  ·simp at hn
  ·simp only [List.all_append,Bool.and_eq_true] at h
   have hc:isD c=true:=by simpa using h.2
   rw [isD_iff] at hc
   have:=ih xs h.1 (by simpa using hn)
   rw [dval_snoc,Nat.pow_succ]; omega
theorem dval_sm {l:List UInt8} (h:l.all isD=true) (hl:l.length≤100000):Sm (dval l):=by
 refine Sm.of_bits (k:=4 * l.length) ?_ (by omega)
 rw [Nat.pow_mul]
 exact Nat.lt_of_lt_of_le (dval_lt l h) (Nat.pow_le_pow_left (by decide) _)
def RetNT (o:Option Nat) (w:World) (e:Ending) (w':World):Prop :=
 match o with
 | some n => ∃ v,e=.returned (.tuple #[v,.bool true])∧IsN B32 w' v n∧Below w.heap.size w w'
 | none => e=.returned (.tuple #[.slice none 0 0,.bool false])∧Below w.heap.size w w'
theorem wrap_u64_nat {n:Nat} (h:n<18446744073709551616):IntKind.u64.wrap (n:Int)=(n:Int):=by rw [wrap_u64']; omega
theorem natText_empty (w:World) (s:ByteArray) (h:s.data.toList=[]) :
  Calls Tryz.prog 171 #[.string s] w fun e w' => e=.returned (.tuple #[.slice none 0 0,.bool false])∧w=w':=by
 have h1:s.toList=[]:=by rw [ByteArray.toList_eq]; exact h
 have h2:s.toList.isEmpty=true:=by rw [h1]; rfl
 have H:=Lib.hid h1
 clear h1 h
 go_enter Tryz.func171,Tryz.ntmps171
 go_wp2
 all_goals first
  | (go_ret2; exact ⟨rfl,rfl⟩)
  | (exfalso; rename_i h3 _; exact h3 H.out)
theorem natText_zero (w:World) (s:ByteArray) (hp:0<s.size) (h:s[0]=48) (hl:s.data.toList ≠ [48]) :
  Calls Tryz.prog 171 #[.string s] w fun e w' => e=.returned (.tuple #[.slice none 0 0,.bool false])∧w=w':=by
 have h1:(s.toList == [48])=false:=by rw [ByteArray.toList_eq]; simpa using hl
 have h2:s.toList.isEmpty=false:=by
  rw [ByteArray.toList_eq,List.isEmpty_eq_false_iff]
  intro e; have:=lenB s; rw [e] at this; simp only [List.length_nil] at this; omega
 have h3:((s[0].toNat:Int) == 48)=true:=by rw [h]; rfl
 clear h hl
 go_enter Tryz.func171,Tryz.ntmps171
 go_wp2
 go_ret2
 exact ⟨rfl,rfl⟩
set_option maxHeartbeats 1600000 in
set_option maxRecDepth 100000 in
theorem natText_loop (w:World) (s:ByteArray) (hp:0<s.size) (hs:s.size≤20000) (h:s.data.toList.head? = some 48→s.data.toList=[48]) :
  Calls Tryz.prog 171 #[.string s] w (RetNT (if s.data.toList.all isD=true then some (dval s.data.toList) else none) w):=by
 obtain ⟨R,hR⟩:∃ R:Ending→World→Prop,R=RetNT (if s.data.toList.all isD=true then some (dval s.data.toList) else none) w:=⟨_,rfl⟩
 rw [← hR]
 have HR:=Lib.hid hR
 clear hR
 have h2:s.toList.isEmpty=false:=by
  rw [ByteArray.toList_eq,List.isEmpty_eq_false_iff]
  intro e; have:=lenB s; rw [e] at this; simp only [List.length_nil] at this; omega
 have h3:((s[0].toNat:Int) == 48)=false ∨ (((s[0].toNat:Int) == 48)=true∧(s.toList == [48])=true):=by
  by_cases e:((s[0].toNat:Int) == 48)=true
  ·right
   refine ⟨e,?_⟩
   rw [ByteArray.toList_eq]
   have e1:s[0].toNat=48:=by have:=beq_iff_eq.1 e; omega
   have e2:s[0]=48:=UInt8.toNat_inj.1 e1
   have:=h (by
    have hd:s.data.toList.head? = s.data.toList[0]?:=by cases s.data.toList <;> rfl
    rw [hd,List.getElem?_eq_getElem (by rw [lenB]; exact hp)]
    exact congrArg some e2)
   simp [this]
  ·left; simpa using e
 clear h
 rcases h3 with h3 | ⟨h3,h4⟩
 all_goals
  go_enter Tryz.func171,Tryz.ntmps171
  go_wp2
  go_loopw [4,5] (fun ov iv wr => ∃ k:Nat,k≤s.size∧iv=.int .i64 (k:Nat)∧IsN B32 wr ov (dval (s.data.toList.take k))∧Hid ((s.data.toList.take k).all isD=true)∧Below w.heap.size w wr) (fun _ iv _ => s.size - (intOf iv).toNat)
  case atStart => exact ⟨0,Nat.zero_le _,rfl,IsN.nil _ _,rfl,Below.refl _ _⟩
  case round =>
   obtain ⟨k,hk,rfl,hN,hall,hb⟩:=hrel
   by_cases hlt:k<s.size
   ·go_wp2
    obtain ⟨wo,hwo⟩:∃ wo:World,wo=wr:=⟨_,rfl⟩
    go_loopw [5,6,7] (fun iv fv dv wy => ∃ i F D:Nat,i≤s.size∧iv=.int .i64 (i:Nat)∧fv=.int .u64 (F:Nat)∧dv=.int .u64 (D:Nat)∧1≤F∧F≤1000000000∧D<F∧Hid (NtIn s.data.toList k i F D)∧∃ q,wy=wo.drewN q) (fun iv _ _ _ => s.size - (intOf iv).toNat)
    case atStart => exact ⟨k,1,0,hk,rfl,rfl,rfl,by omega,by omega,by omega,NtIn.start hall.out,0,by rw [hwo]; rfl⟩
    case round =>
     obtain ⟨i,F,D,hi,rfl,rfl,rfl,hF1,hF2,hD,hnt,q,rfl⟩:=hrel
     subst hwo
     by_cases hlt2:i<s.size∧F<1000000000
     ·obtain ⟨hlt2,hF3⟩:=hlt2
      ·by_cases hd:isD s[i]=true
       ·have hst:Hid (NtIn s.data.toList k (i+1) (10 * F) (10 * D+(s[i].toNat - 48))):=hnt.out.step hlt2 hd
        have hd':=(isD_iff _).1 hd
        have hpw:10 * F≤1000000000:=by
         have e:=hnt.out.pow
         rw [e] at hF3 ⊢
         exact pow_next hF3
        have hc1:(48:Int)≤(s[i].toNat:Int):=by omega
        have hc2:(s[i].toNat:Int)≤57:=by omega
        have hF3':decide ((F:Int)<1000000000)=true:=by rw [decide_eq_true_eq]; omega
        have hpw':=Lib.hid hpw
        have hF2':=Lib.hid hF2
        have hc1':decide ((s[i].toNat:Int)<48)=false:=by rw [decide_eq_false_iff_not]; omega
        have hc2':decide ((57:Int)<(s[i].toNat:Int))=false:=by rw [decide_eq_false_iff_not]; omega
        have hc1'':=Lib.hid hc1
        have hc2'':=Lib.hid hc2
        clear hN hall hb hnt hd hd' hF3 hpw hF2 hc1 hc2
        go_wp2
        go_quiet (fail)
        go_wp2
        rw [show IntKind.u64.wrap (10 * (F:Int))=((10 * F:Nat):Int) from by exact_mod_cast wrap_u64_nat (n:=10 * F) (by have:=hF2'.out; omega),
         show IntKind.u64.wrap (IntKind.u64.wrap (10 * (D:Int))+((s[i].toNat:Int) - 48) % 256)=((10 * D+(s[i].toNat - 48):Nat):Int) from by
          have:=hF2'.out
          have:=hc1''.out
          have:=hc2''.out
          have e1:IntKind.u64.wrap (10 * (D:Int))=((10 * D:Nat):Int):=by exact_mod_cast wrap_u64_nat (n:=10 * D) (by omega)
          rw [e1,show ((10 * D:Nat):Int)+((s[i].toNat:Int) - 48) % 256=((10 * D+(s[i].toNat - 48):Nat):Int) from by omega]
          exact wrap_u64_nat (by omega)]
        have:=hc1''.out
        have:=hc2''.out
        refine ⟨⟨i+1,10 * F,10 * D+(s[i].toNat - 48),by omega,rfl,rfl,rfl,by omega,hpw'.out,by omega,hst,q+nq,rfl⟩,?_⟩
        show s.size - (i+1)<s.size - i
        omega
       ·have hdf:isD s[i]=false:=by simpa using hd
        have hR2:R=RetNT none w:=by
         have e:=HR.out
         have ha:s.data.toList.all isD=false:=by
          rw [List.all_eq_false]
          exact ⟨s[i],List.getElem_mem (by rw [lenB]; exact hlt2),by simp [hdf]⟩
         rw [ha] at e
         simpa using e
        have hc:decide ((s[i].toNat:Int)<48)=true ∨ (decide ((s[i].toNat:Int)<48)=false∧decide ((57:Int)<(s[i].toNat:Int))=true):=by
         rw [isD_iff] at hd
         by_cases e:s[i].toNat<48
         ·left; rw [decide_eq_true_eq]; omega
         ·right; rw [decide_eq_false_iff_not,decide_eq_true_eq]; constructor <;> omega
        have hF3':decide ((F:Int)<1000000000)=true:=by rw [decide_eq_true_eq]; omega
        clear hN hall hnt hd hdf hF3 hF2
        have hR2':=Lib.hid hR2
        clear hR2 HR
        rcases hc with hc | ⟨hc,hc2⟩
        all_goals
         go_wp2
         rw [hR2'.out]
         exact ⟨rfl,hb.trans ((below_drewN' _ _).mono hb.size)⟩
     ·have hik:k<i:=by
       rcases Nat.lt_or_ge k i with h | h
       ·exact h
       ·exfalso
        have e1:i=k:=Nat.le_antisymm h hnt.out.le
        subst e1
        have e2:=hnt.out.pow
        rw [Nat.sub_self] at e2
        exact hlt2 ⟨hlt,by omega⟩
      have s1:Sm (dval (s.data.toList.take k)):=dval_sm hall.out (by rw [List.length_take,lenB]; omega)
      have s3:Sm (dval (s.data.toList.take i)):=dval_sm hnt.out.dig (by rw [List.length_take,lenB]; omega)
      have hv:=Lib.hid hnt.out.val
      have s2:Sm (dval (s.data.toList.take k) * F):=s3.mono (by rw [hv.out]; omega)
      have hdig:=Lib.hid hnt.out.dig
      have hc4:(i<s.size∧decide ((F:Int)<1000000000)=false) ∨ (i=s.size∧decide ((F:Int)<1000000000)=false) ∨ (i=s.size∧decide ((F:Int)<1000000000)=true):=by
       rcases Nat.lt_or_ge i s.size with e | e
       ·left; refine ⟨e,?_⟩; rw [decide_eq_false_iff_not]; intro e2; exact hlt2 ⟨e,by omega⟩
       ·right
        rcases Bool.eq_false_or_eq_true (decide ((F:Int)<1000000000)) with e2 | e2
        ·exact .inr ⟨by omega,e2⟩
        ·exact .inl ⟨by omega,e2⟩
      have C1:=Lib.hid (natOf_any F (by omega))
      have C2:=Lib.hid (natOf_any D (by omega))
      have sF:Hid (Sm F):=Sm.of_bits (k:=64) (by omega) (by decide)
      have sD:Hid (Sm D):=Sm.of_bits (k:=64) (by omega) (by decide)
      have hik':=Lib.hid hik
      have hi':=Lib.hid hi
      have hlt':=Lib.hid hlt
      have hN':=Lib.hid hN
      have s1':=Lib.hid s1
      have s2':=Lib.hid s2
      have s3':=Lib.hid s3
      clear hlt2 hnt hF1 hF2 hD hik hi hlt hN hall s1 s2 s3
      rcases hc4 with ⟨hc1,hc2⟩ | ⟨rfl,hc2⟩ | ⟨rfl,hc2⟩
      all_goals
       go_wp2_with fail
       refine (C1.out _).mono ?_
       rintro e w1 ⟨v1,rfl,hv1,hb1⟩
       have hB1:=(below_drewN' wo q).trans hb1
       go_wp2_with fail
       refine (mul_any (hN'.out.later hB1) hv1 s1'.out sF.out).mono ?_
       rintro e w2 ⟨v2,rfl,hv2,hb2⟩
       go_wp2_with fail
       refine (C2.out _).mono ?_
       rintro e w3 ⟨v3,rfl,hv3,hb3⟩
       go_wp2_with fail
       refine (add_any (hv2.later hb3) hv3 s2'.out sD.out).mono ?_
       rintro e w4 ⟨v4,rfl,hv4,hb4⟩
       rw [← hv.out] at hv4
       have hB4:=hB1.trans ((hb2.trans ((hb3.trans (hb4.mono hb3.size)).mono hb2.size)).mono hB1.size)
       go_wp2
       refine ⟨⟨_,hi'.out,rfl,hv4,hdig.out,hb.trans (hB4.mono hb.size)⟩,?_⟩
       have:=hik'.out
       have:=hi'.out
       first
        | (show s.size - i<s.size - k; omega)
        | (show s.size - s.size<s.size - k; omega)
   ·obtain rfl:k=s.size:=by omega
    go_wp2
    rw [HR.out]
    have hall':=hall.out
    have e1:s.data.toList.take s.size=s.data.toList:=by rw [← lenB,List.take_length]
    rw [e1] at hall' hN
    rw [if_pos hall']
    exact ⟨_,rfl,hN,hb⟩
theorem natText_any (w:World) (s:ByteArray) (hs:s.size≤20000) :
  Calls Tryz.prog 171 #[.string s] w (RetNT (parseD s.data.toList) w):=by
 by_cases h0:s.data.toList=[]
 ·rw [show parseD s.data.toList=none from by rw [parseD,if_neg (fun h => h.1 h0)]]
  refine (natText_empty w s h0).mono ?_
  rintro e w' ⟨rfl,rfl⟩
  exact ⟨rfl,Below.refl _ _⟩
 ·have hp:0<s.size:=by
   rw [← lenB]; exact List.length_pos_iff.2 h0
  have hh:s.data.toList.head? = some s[0]:=by
   have hd:s.data.toList.head? = s.data.toList[0]?:=by cases s.data.toList <;> rfl
   rw [hd,List.getElem?_eq_getElem (by rw [lenB]; exact hp)]
   rfl
  by_cases h1:s.data.toList.head? = some 48→s.data.toList=[48]
  ·refine (natText_loop w s hp hs h1).mono ?_
   intro e w' h
   have e1:parseD s.data.toList=if s.data.toList.all isD=true then some (dval s.data.toList) else none:=by
    rw [parseD]
    by_cases h2:s.data.toList.all isD=true
    ·rw [if_pos ⟨h0,h1,h2⟩,if_pos h2]
    ·rw [if_neg (fun h => h2 h.2.2),if_neg h2]
   rw [e1]; exact h
  ·rw [show parseD s.data.toList=none from by rw [parseD,if_neg (fun h => h1 h.2.1)]]
   have h2:s.data.toList.head? = some 48∧s.data.toList ≠ [48]:=by simpa using h1
   refine (natText_zero w s hp (by rw [hh] at h2; exact Option.some.inj h2.1) h2.2).mono ?_
   rintro e w' ⟨rfl,rfl⟩
   exact ⟨rfl,Below.refl _ _⟩
abbrev TB:TypeId:=72
abbrev T8:TypeId:=5
set_option maxHeartbeats 1000000 in
set_option maxRecDepth 100000 in
theorem bld_check_used (b:Nat) (w:World) (h0:w.cell? ⟨b,0,none⟩=some (.pointer (some ⟨b,0,none⟩))) :
  Calls Tryz.prog 72 #[.pointer (some ⟨b,0,none⟩)] w fun e w' => e=.returned (.tuple #[])∧w'=w:=by
 obtain ⟨j,hj,_⟩:=Option.map_eq_some_iff.1 Tryz.Builder_Extra_155.sizeBuilder
 go_enter Tryz.func72,Tryz.ntmps72
 go_wp2
 rw [Lib.run_neq_ptr_same w _ Tryz.underlying69 hj]
 go_wp2
 go_end0
 exact ⟨rfl,rfl⟩
set_option maxHeartbeats 1000000 in
set_option maxRecDepth 100000 in
theorem bld_check_fresh (b:Nat) (w:World) (h0:w.cell? ⟨b,0,none⟩=some (.pointer none)) (hsh:w.shape? b=some (TB,2)) (hfz:w.frozen? ⟨b,0,none⟩=false) :
  Calls Tryz.prog 72 #[.pointer (some ⟨b,0,none⟩)] w fun e w' => e=.returned (.tuple #[])∧w'=w.setCell ⟨b,0,none⟩ (.pointer (some ⟨b,0,none⟩)):=by
 obtain ⟨j,hj,hjs⟩:=Option.map_eq_some_iff.1 Tryz.Builder_Extra_155.sizeBuilder
 go_enter Tryz.func72,Tryz.ntmps72
 go_wp2
 rw [Lib.run_to_unsafe w ⟨b,0,none⟩ Tryz.underlying69 Tryz.underlying163 hj (by rw [hjs]; decide) hsh (Nat.zero_lt_succ 1)]
 simp only [Result.andThen]
 rw [Oper.upon_value]
 go_wp2
 rw [run_callFunc_extern Tryz.func112 (by kernel_rfl) (by kernel_rfl) (by kernel_rfl) (e:=Extern.AbiNoEscape.same) (by kernel_rfl)]
 rw [Lib.run_noEscape]
 simp only [Result.andThen]
 rw [Oper.upon_value]
 go_wp2
 rw [Lib.run_from_unsafe w ⟨b,0,none⟩ Tryz.underlying163 Tryz.underlying69 hj hsh Tryz.Builder_Extra_155.liesBuilder]
 simp only [Result.andThen]
 rw [Oper.upon_value]
 go_wp2
 go_end0
 exact ⟨rfl,rfl⟩
theorem bld_check (B b:Nat) (bs:List Value) (w:World) (h:Lib.IsBuilder TB T8 B b bs w) :
  Calls Tryz.prog 72 #[.pointer (some ⟨b,0,none⟩)] w fun e w' => e=.returned (.tuple #[])∧(Lib.BuilderAt TB T8 B b (.pointer (some ⟨b,0,none⟩)) bs w'∧Below B w w'):=by
 rcases h with h | h
 ·refine (bld_check_fresh b w h.cell0 h.shape h.frozen0).mono ?_
  rintro e w' ⟨rfl,rfl⟩
  exact ⟨rfl,h.used _,(Below.refl B w).setCell (p:=⟨b,0,none⟩) h.1 _⟩
 ·refine (bld_check_used b w h.cell0).mono ?_
  rintro e w' ⟨rfl,rfl⟩
  exact ⟨rfl,h,Below.refl B _⟩
set_option maxHeartbeats 2000000 in
set_option maxRecDepth 100000 in
theorem bld_write (B b:Nat) (bs:List Value) (s:ByteArray) (w:World) (h:Lib.IsBuilder TB T8 B b bs w) (hlen:bs.length+s.size≤140737488355328) (hBw:B≤w.heap.size) :
  Calls Tryz.prog 31 #[.pointer (some ⟨b,0,none⟩),.string s] w fun e w' => e=.returned (.tuple #[.int .i64 s.size,.nilIface])∧(Lib.BuilderAt TB T8 B b (.pointer (some ⟨b,0,none⟩)) (bs ++ Lib.strCells s) w'∧Below B w w'):=by
 obtain ⟨i0,hi,hz0,hz1,hz2⟩:=info_parts Tryz.Builder_Extra_155.infoByte
 go_enter Tryz.func31,Tryz.ntmps31
 go_wp2_with fail
 refine (bld_check B b bs _ h).mono ?_
 rintro e w1 ⟨rfl,h1,hb1⟩
 obtain ⟨hB,v,hbk,hown,hne⟩:=h1
 have c0:w1.cell? ⟨b,0,none⟩=some (.pointer (some ⟨b,0,none⟩)):=by rw [Lib.cell_of_heap hbk]; rfl
 have c1:w1.cell? ⟨b,1,none⟩=some v:=by rw [Lib.cell_of_heap hbk]; rfl
 go_wp2_with (at_builtin; refine Lib.wpList_append_own_string _ rfl _ _ 70 9 rfl B T8 i0 Tryz.underlying70 Tryz.underlying9 hi hz0 hz1 hz2 _ _ _ rfl hown s rfl ?c3 ?c4 ?c5 ?_)
 case c3 => unfold maxLen; omega
 case c4 => omega
 case c5 => have:=hb1.size; omega
 intro v' w2 hown' hgrow _
 have hlt:b<w1.heap.size:=by
  rcases Nat.lt_or_ge b w1.heap.size with h' | h'
  ·exact h'
  ·simp [Array.getElem?_eq_none h'] at hbk
 have hb2:w2.heap[b]? = some (.cells #[.pointer (some ⟨b,0,none⟩),v] TB (0,0)):=by
  rw [hgrow.block b hlt (fun e => hne e.symm)]
  exact hbk
 have d0:w2.cell? ⟨b,0,none⟩=some (.pointer (some ⟨b,0,none⟩)):=by rw [Lib.cell_of_heap hb2]; rfl
 have d1:w2.cell? ⟨b,1,none⟩=some v:=by rw [Lib.cell_of_heap hb2]; rfl
 have f1:w2.frozen? ⟨b,1,none⟩=false:=Lib.frozen_of_heap hb2 1
 obtain ⟨ao,n',cap,rfl⟩:∃ ao n' cap,v'=.slice ao n' cap:=by
  rcases hown'.2 with ⟨hv,_⟩ | ⟨g,cap,cur,hv,_⟩
  ·exact ⟨_,_,_,hv⟩
  ·exact ⟨_,_,_,hv⟩
 go_wp2
 go_ret2
 refine ⟨rfl,?_,?_⟩
 ·exact Lib.BuilderAt.put (T:=TB) (e:=T8) hB hb2 (bs':=bs ++ Lib.strCells s) (by simpa [Lib.strCells_length] using hown') (by decide)
 ·exact (hb1.grown hgrow (by have:=hb1.size; omega) (fun k hk => (hown.lt k hk).1)).setCell (p:=⟨b,1,none⟩) hB _
end Go.Proofs.YtdbnebhehiiakaaGreatDoor
