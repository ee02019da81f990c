/- Lemmas and contracts, each under its own condition: Contract: nat.text. Contract: Rat.Text. Parse: the number that a string denotes. Plain. Contract: Parse. Contracts: short. Values in the program; contracts: plain, missing, gcd, truth. Contracts: gcd of int64, right. -/
import Derived.Laws.Cover4
import Derived.Stop.FmtQuoteTie
import Derived.Lib.IndexMore
import Derived.Lib.Strings
import Derived.Handy
import Derived.Test.YtdbnebhehiiakaaGreatDoorR1
import Derived.Test.YtdbnebhehiiakaaGreatDoorT0
namespace Go.Proofs.YtdbnebhehiiakaaGreatDoor
open Go.RowKit
def chunk:Nat→Nat→List UInt8
 | 0,_ => []
 | k+1,d => dchar (d / 10 ^ k % 10) :: chunk k d
theorem chunk_len (k d:Nat):(chunk k d).length=k:=by
 induction k with
 | zero => rfl
 | succ k ih => simp [chunk,ih]
theorem chunk_dig (k d:Nat):(chunk k d).all isD=true:=by
 induction k with
 | zero => rfl
 | succ k ih => simp only [chunk,List.all_cons,ih,Bool.and_true]; exact dchar_isD (by omega)
theorem dval_cons (c:UInt8) (l:List UInt8):dval (c :: l)=(c.toNat - 48) * 10 ^ l.length+dval l:=by
 have key:∀ (l:List UInt8) (a:Nat),l.foldl (fun a c => 10 * a+(c.toNat - 48)) a=a * 10 ^ l.length+dval l:=by
  intro l
  induction l with
  | nil => intro a; simp [dval]
  | cons c l ih =>
   intro a
   simp only [List.foldl_cons,List.length_cons]
   rw [ih,show dval (c :: l)=l.foldl (fun a c => 10 * a+(c.toNat - 48)) (10 * 0+(c.toNat - 48)) from rfl,ih,Nat.pow_succ,Nat.mul_zero,Nat.zero_add,Nat.add_mul,Nat.add_assoc]
   congr 1
   rw [Nat.mul_comm 10 a,Nat.mul_assoc,Nat.mul_comm 10]
 show (l.foldl _ (10 * 0+(c.toNat - 48)))=_
 rw [key,Nat.mul_zero,Nat.zero_add]
theorem chunk_val (k d:Nat):dval (chunk k d)=d % 10 ^ k:=by
 induction k with
 | zero => simp [chunk,dval,Nat.mod_one]
 | succ k ih =>
  rw [chunk,dval_cons,ih,chunk_len,dchar_toNat (by omega),Nat.pow_succ,Nat.mod_mul]
  rw [Nat.add_comm,Nat.mul_comm (10 ^ k)]
  congr 2; omega
theorem chunk_add (j k d:Nat):chunk (j+k) d=chunk j (d / 10 ^ k) ++ chunk k d:=by
 induction j with
 | zero => simp [chunk]
 | succ j ih =>
  rw [show j+1+k=(j+k)+1 from by omega,chunk,chunk,ih,List.cons_append,Nat.div_div_eq_div_mul,← Nat.pow_add,Nat.add_comm k j]
theorem chunk_mod (k d m:Nat) (h:k≤m):chunk k (d % 10 ^ m)=chunk k d:=by
 induction k with
 | zero => rfl
 | succ k ih =>
  rw [chunk,chunk,ih (by omega)]
  congr 2
  obtain ⟨j,rfl⟩:∃ j,m=k+(j+1):=⟨m - (k+1),by omega⟩
  rw [Nat.pow_add,Nat.mod_mul_right_div_self,Nat.mod_mod_of_dvd _ ⟨10 ^ j,by rw [Nat.pow_succ,Nat.mul_comm]⟩]
theorem chunk_trim (k X:Nat) (h0:0<X) (h:X<10 ^ k):(chunk k X).dropWhile (· == 48)=dec X:=by
 induction k with
 | zero => simp at h; omega
 | succ k ih =>
  rw [chunk]
  by_cases e:X<10 ^ k
  ·rw [Nat.div_eq_of_lt e]
   rw [List.dropWhile_cons_of_pos (by rfl)]
   exact ih e
  ·have hd:X / 10 ^ k % 10 ≠ 0:=by
    have h1:1≤X / 10 ^ k:=(Nat.le_div_iff_mul_le (Nat.pow_pos (by decide))).2 (by omega)
    have h2:X / 10 ^ k<10:=(Nat.div_lt_iff_lt_mul (Nat.pow_pos (by decide))).2 (by rw [Nat.pow_succ] at h; omega)
    omega
   have hc:(dchar (X / 10 ^ k % 10)).toNat ≠ 48:=by rw [dchar_toNat (by omega)]; omega
   have hc':dchar (X / 10 ^ k % 10) ≠ 48:=fun e => hc (by rw [e]; rfl)
   rw [List.dropWhile_cons_of_neg (by simpa using hc')]
   have hh:(chunk (k+1) X).head? = some 48→chunk (k+1) X=[48]:=by
    intro hh
    simp only [chunk,List.head?_cons,Option.some.injEq] at hh
    exact absurd hh hc'
   rw [← chunk,← parseD_iff,parseD,if_pos ⟨by simp [chunk],hh,chunk_dig _ _⟩,chunk_val,Nat.mod_eq_of_lt h]
abbrev str (l:List UInt8):Value:=.string ⟨l.toArray⟩
theorem textZero {x:Value} {w:World} (hx:IsN B32 w x 0) :
  Calls Tryz.prog 75 #[x] w fun e w' => e=.returned (.string ⟨#[48]⟩)∧w=w':=by
 obtain ⟨n,D,r,s⟩:=hx
 obtain ⟨ad,gb,cap,rfl,-,-,-,-⟩:=s.shape
 obtain rfl:n=0:=(r.zero_iff (by decide)).2 rfl
 clear s r
 go_enter Tryz.func75,Tryz.ntmps75
 go_wp2
 go_ret
 exact ⟨rfl,rfl⟩
theorem infoStr:(Tryz.prog.info? 9).map (fun i => (i.zero,i.size,i.bytes))=some (some (.string ⟨#[]⟩),1,16):=by kernel_rfl
theorem encode_dchar (t:Nat) (l:List UInt8):Utf8.encode (48+(t:Int) % 10) ++ ⟨l.toArray⟩=(⟨(dchar (t % 10) :: l).toArray⟩:ByteArray):=by
 have e:(48+(t:Int) % 10)=((48+t % 10:Nat):Int):=by omega
 rw [e]
 have c1:48+t % 10<128:=by omega
 have v:Utf8.valid ((48+t % 10:Nat):Int)=true:=by simp [Utf8.valid]; omega
 have hb:∀ a b:ByteArray,a.data.toList=b.data.toList→a=b:=by
  intro a b h
  cases a; cases b
  simp only [ByteArray.mk.injEq]
  exact Array.toList_inj.1 h
 apply hb
 rw [ByteArray.data_append,Array.toList_append,Go.Extern.FmtText.enc1 _ c1]
 rfl
theorem Sm.bits' {X:Nat} (h:Sm X):X<2 ^ (32 * LIM):=by
 have h1:=h.lt
 rw [show B32=2 ^ 32 from rfl,← Nat.pow_mul] at h1
 exact h1
theorem rounds_le {X k i:Nat} (sx:Sm X) (hk:k=X / 10 ^ (9 * i)) (h:k ≠ 0):i≤1200000:=by
 have h1:10 ^ (9 * i)≤X:=by
  rcases Nat.lt_or_ge X (10 ^ (9 * i)) with e | e
  ·exact absurd (by rw [hk,Nat.div_eq_of_lt e]) h
  ·exact e
 have h2:2 ^ (27 * i)≤10 ^ (9 * i):=by
  rw [show 27 * i=3 * (9 * i) from by omega,Nat.pow_mul]
  exact Nat.pow_le_pow_left (by decide) _
 have h3:2 ^ (27 * i)<2 ^ (32 * LIM):=Nat.lt_of_le_of_lt (Nat.le_trans h2 h1) sx.bits'
 have:=(Nat.pow_lt_pow_iff_right (by decide:1<2)).1 h3
 have:=LIM_eq
 omega
theorem IsN.grown {B base n:Nat} {e:TypeId} {w w':World} {v u:Value} {X:Nat} {xs:List Value} (h:IsN B w v X) (ho:w.ownsRow base e 1 u n xs) (h0:n=0→u=.slice none 0 0)
  (hx:∀ x ∈ xs,∀ k m,x ≠ .int k m) (hg:w.grownBy w' u.ownBlock):IsN B w' v X:=by
 obtain ⟨m,D,r,hs⟩:=h
 refine ⟨m,D,r,?_⟩
 rcases hs with hs | ⟨g,cap,h1,h2,h3,h4⟩
 ·exact .inl hs
 ·refine .inr ⟨g,cap,h1,h2,h3,fun i hi => hg.cell (h4 i hi) ?_⟩
  intro e1
  rcases ho.2 with ⟨e2,-⟩ | ⟨g',c',cur,e2,-,e3,e4,-,e5,e6⟩
  ·rw [e2] at e1; simp [Value.ownBlock] at e1
  ·rw [e2] at e1
   simp only [Value.ownBlock,Option.some.injEq] at e1
   subst e1
   have hn:0<n:=by
    rcases Nat.eq_zero_or_pos n with e | e
    ·have:=h0 e; rw [e2] at this; simp at this
    ·exact e
   have hx0:0<xs.length:=by rw [ho.1]; omega
   have c0:=ho.cells (g:=g) (by rw [e2]; rfl) 0 xs[0] (List.getElem?_eq_getElem hx0)
   have c1:=h4 0 (by omega)
   have e7:(⟨g,0,none⟩:Addr).add 0=⟨g,0,none⟩:=by simp [Addr.add]
   rw [e7,c1] at c0
   exact hx _ (List.getElem_mem hx0) _ _ (Option.some.inj c0).symm
theorem own_below {w w':World} {B e size n:Nat} {v:Value} {xs:List Value} (h:w.ownsRow B e size v n xs) (hb:Below w.heap.size w w'):w'.ownsRow B e size v n xs:=by
 refine ⟨h.1,?_⟩
 rcases h.2 with hn | ⟨g,cap,cur,rfl,hg,hgg,rest⟩
 ·exact .inl hn
 ·exact .inr ⟨g,cap,cur,rfl,hg,by rw [hb.block g (Array.getElem?_eq_some_iff.1 hgg).1]; exact hgg,rest⟩
set_option maxHeartbeats 1600000 in
set_option maxRecDepth 100000 in
theorem text_pos {X:Nat} {x:Value} {w:World} (hx:IsN B32 w x X) (sx:Sm X) (h0:0<X) :
  Calls Tryz.prog 75 #[x] w fun e w' => e=.returned (str (dec X))∧Below w.heap.size w w':=by
 have hx':=Lib.hid hx
 obtain ⟨n,D,r,s⟩:=hx
 obtain ⟨ad,gb,cap,rfl,-,-,-,-⟩:=s.shape
 have hn:n ≠ 0:=fun e => by subst e; have:=(r.zero_iff (by decide)).1 rfl; omega
 have hnb:(((n:Nat):Int) == 0)=false:=by rw [beq_eq_false_iff_ne]; omega
 have hnl:n≤1000000:=sx.len r
 clear s r
 go_enter Tryz.func75,Tryz.ntmps75
 go_wp2
 go_loopg [0,3] X (fun k xv pv wr => ∃ i:Nat,k=X / 10 ^ (9 * i)∧IsN B32 wr xv k∧wr.ownsRow w.heap.size 9 1 pv i ((List.range i).map fun m => str (chunk 9 (X / 10 ^ (9 * m))))∧Hid (i=0→pv=.slice none 0 0)∧Hid (i≤1200001)∧Below w.heap.size w wr)
 case atStart => exact ⟨0,by simp,hx'.out,World.ownsRow_nil _ _ _ _,fun _ => rfl,Nat.zero_le _,Below.refl _ _⟩
 case round =>
  rename_i xv pv
  obtain ⟨i,hk,hN,hown,hnil,hil,hb⟩:=hrel
  have sk:Sm gk:=sx.mono (by rw [hk]; exact Nat.div_le_self _ _)
  have hN':=Lib.hid hN
  obtain ⟨n,D,r,s⟩:=hN
  obtain ⟨ad,gb,cap,rfl,-,-,-,-⟩:=s.shape
  have hz:=r.zero_iff (by decide)
  by_cases h1:gk=0
  ·subst h1
   obtain rfl:n=0:=hz.2 rfl
   have hXi:X<10 ^ (9 * i):=by
    rcases Nat.lt_or_ge X (10 ^ (9 * i)) with e | e
    ·exact e
    ·have:=(Nat.le_div_iff_mul_le (Nat.pow_pos (n:=9 * i) (by decide:0<10))).2 (by simpa using e:1 * 10 ^ (9 * i)≤X)
     omega
   have hi0:i ≠ 0:=by rintro rfl; simp at hXi; omega
   have hi9:i≤1200001:=hil.out
   have hXi':=Lib.hid hXi
   have hown':=Lib.hid hown
   have hb':=Lib.hid hb
   obtain ⟨gp,cap,cur,rfl,hgp,hgb,-,-,-,-⟩:=hown.2.resolve_left (fun h => hi0 h.2)
   have hgl:gp<wr.heap.size:=(Array.getElem?_eq_some_iff.1 hgb).1
   have hcell:Hid (∀ m,m<i→wr.cell? ⟨gp,m,none⟩=some (str (chunk 9 (X / 10 ^ (9 * m))))):=by
    intro m hm
    have e1:=hown.cells (g:=gp) rfl m (str (chunk 9 (X / 10 ^ (9 * m)))) (by rw [List.getElem?_map,List.getElem?_range hm]; rfl)
    have e2:(⟨gp,0,none⟩:Addr).add m=⟨gp,m,none⟩:=by unfold Addr.add; split <;> simp_all
    rw [e2] at e1
    exact e1
   clear hown hb hnil hk hN' sk hz s r hXi
   go_wp2
   go_loopw [8] (fun jv wy => ∃ m:Nat,m≤i∧jv=.int .i64 ((m:Int) - 1)∧Lib.IsBuilder TB T8 wr.heap.size wr.heap.size (Lib.byteCells (chunk (9 * (i - m)) (X / 10 ^ (9 * m)))) wy∧Below wr.heap.size wr wy) (fun jv _ => (intOf jv+1).toNat)
   case atStart => exact ⟨i,Nat.le_refl _,by simp,by rw [Nat.sub_self]; exact Lib.fresh_isBuilder TB T8 wr,below_alloc _ _⟩
   case round =>
    obtain ⟨m,hm,rfl,hB,hbw⟩:=hrel
    by_cases hm0:m=0
    ·subst hm0
     have hB':=Lib.hid hB
     have hbw':=Lib.hid hbw
     clear hB hbw
     go_wp2_with fail
     have hne:chunk (9 * (i - 0)) (X / 10 ^ (9 * 0)) ≠ []:=by
      intro e
      have:=congrArg List.length e
      rw [chunk_len] at this
      simp at this; omega
     refine (Tryz.Builder_String _ _ _ _ hB'.out hne).mono ?_
     rintro e w3 ⟨rfl,hb3⟩
     go_wp2_with fail
     refine (Tryz.strings_TrimLeft_one _ 48 (by decide) _).mono ?_
     rintro e w4 ⟨rfl,rfl⟩
     go_wp2
     go_ret
     have e3:Lib.trimLeftB (chunk (9 * i) X) 48=dec X:=chunk_trim _ _ h0 hXi'.out
     refine ⟨congrArg (fun l:List UInt8 => Ending.returned (str l)) e3,hb'.out.trans ((hbw'.out.trans hb3).mono hb'.out.size)⟩
    ·obtain ⟨m,rfl⟩:∃ k,m=k+1:=⟨m - 1,by omega⟩
     rw [show ((m+1:Nat):Int) - 1=(m:Nat) from by omega]
     have hmi:m<i:=hm
     have hc1:wr.cell? ⟨gp,m,none⟩=some (str (chunk 9 (X / 10 ^ (9 * m)))):=(hbw.cell (p:=⟨gp,m,none⟩) hgl).trans (hcell.out m hmi)
     have hB':=Lib.hid hB
     have hbw':=Lib.hid hbw
     have hpw:=Lib.hid (chunk_add (9 * (i - (m+1))) 9 (X / 10 ^ (9 * m)))
     clear hB hbw
     go_wp2_with fail
     refine (bld_write _ _ _ _ _ hB'.out ?_ hbw'.out.size).mono ?_
     ·rw [show (Lib.byteCells (chunk (9 * (i - (m+1))) (X / 10 ^ (9 * (m+1))))).length=9 * (i - (m+1)) from by rw [Lib.byteCells,List.length_map,chunk_len],
       show (⟨(chunk 9 (X / 10 ^ (9 * m))).toArray⟩:ByteArray).size=9 from by show (chunk 9 (X / 10 ^ (9 * m))).toArray.size=9; rw [List.size_toArray,chunk_len]]
      omega
     rintro e w3 ⟨rfl,hB3,hb3⟩
     go_wp2
     refine ⟨⟨m,by omega,rfl,.inr ?_,hbw'.out.trans hb3⟩,?_⟩
     ·have e1:chunk (9 * (i - m)) (X / 10 ^ (9 * m))=chunk (9 * (i - (m+1))) (X / 10 ^ (9 * (m+1))) ++ chunk 9 (X / 10 ^ (9 * m)):=by
       rw [show 9 * (i - m)=9 * (i - (m+1))+9 from by omega,hpw.out,Nat.div_div_eq_div_mul,← Nat.pow_add,show 9 * m+9=9 * (m+1) from by omega]
      rw [e1]
      have e2:Lib.byteCells (chunk (9 * (i - (m+1))) (X / 10 ^ (9 * (m+1))) ++ chunk 9 (X / 10 ^ (9 * m)))=Lib.byteCells (chunk (9 * (i - (m+1))) (X / 10 ^ (9 * (m+1)))) ++ Lib.strCells ⟨(chunk 9 (X / 10 ^ (9 * m))).toArray⟩:=by
       simp [Lib.byteCells,Lib.strCells]
      rw [e2]
      exact hB3
     ·show ((m:Int) - 1+1).toNat<((m:Int)+1).toNat
      omega
  ·have hnp:n ≠ 0:=fun e => h1 (hz.1 e)
   have hnp':decide ((0:Int)<(n:Int))=true:=by rw [decide_eq_true_eq]; omega
   clear s r hz
   go_wp2_with fail
   refine (small_any (d:=1000000000) hN'.out sk (by decide) (by decide)).mono ?_
   rintro e w1 ⟨v1,rfl,hv1,hb1⟩
   obtain ⟨d,hd⟩:∃ d,d=gk % 1000000000:=⟨_,rfl⟩
   rw [← hd]
   have hd':=Lib.hid hd
   have hd2:d<1000000000:=by rw [hd]; exact Nat.mod_lt _ (by decide)
   have hv1':=Lib.hid hv1
   have hown':=Lib.hid (own_below hown hb1)
   have hi9:=Lib.hid (rounds_le sx hk h1)
   have hb':=Lib.hid (hb.trans (hb1.mono hb.size))
   have hk':=Lib.hid hk
   have h1':=Lib.hid h1
   clear hd hv1 hown hb hb1 hk hN' sk hnp hnp' h1
   go_wp2
   obtain ⟨wo,hwo⟩:∃ wo:World,wo=w1:=⟨_,rfl⟩
   go_loopw [5,6,20] (fun dv sv jv wy => ∃ j:Nat,j≤9∧jv=.int .i64 (j:Nat)∧dv=.int .u32 ((d / 10 ^ j:Nat):Int)∧sv=str (chunk j d)∧wy=wo) (fun _ _ jv _ => 9 - (intOf jv).toNat)
   case atStart => exact ⟨0,by omega,rfl,by simp,rfl,hwo.symm⟩
   case round =>
    obtain ⟨j,hj,rfl,rfl,rfl,rfl⟩:=hrel
    by_cases h9:j<9
    ·obtain ⟨t,ht⟩:∃ t,t=d / 10 ^ j:=⟨_,rfl⟩
     rw [← ht]
     have ht':=Lib.hid ht
     have ht2:t<1000000000:=by rw [ht]; exact Nat.lt_of_le_of_lt (Nat.div_le_self _ _) hd2
     have hlen:(chunk j d).length=j:=chunk_len j d
     have hlen':=Lib.hid hlen
     clear ht hlen
     go_wp2
     ·exfalso
      rename_i hh
      rw [hlen'.out] at hh
      have:=encode_size_le (48+(t:Int) % 10)
      omega
     refine ⟨⟨j+1,by omega,rfl,?_,?_,hwo.symm⟩,?_⟩
     ·have e1:((t:Int) / 10)=((d / 10 ^ (j+1):Nat):Int):=by
       rw [Nat.pow_succ,← Nat.div_div_eq_div_mul,← ht'.out]; rfl
      rw [e1]
     ·have e2:chunk (j+1) d=dchar (t % 10) :: chunk j d:=by rw [chunk,← ht'.out]
      rw [e2]
      exact congrArg Value.string (encode_dchar t _)
     ·show 9 - (j+1)<9 - j; omega
    ·obtain rfl:j=9:=by omega
     obtain ⟨i0,hi,hz0,hz1,hz2⟩:=info_parts infoStr
     have hown1:=hown'.out
     go_wp2_with (at_builtin; refine wpList_append_own _ rfl _ _ 88 rfl w.heap.size 9 i0 (.string ⟨#[]⟩) 1 16 Tryz.underlying88 hi hz0 hz1 hz2 rfl (by decide) _ _ _ rfl (hown1.alloc _) ⟨w1.heap.size,0,none⟩ 1 1 [str (chunk 9 d)] rfl rfl ?c1 ?c2 ?c3 ?c4 ?c5 ?_)
     case c1 =>
      intro j u hj
      match j,hj with
      | 0,hj => simp at hj; subst hj; simp [Addr.add]
     case c2 => intro u hu; simp at hu; subst hu; rfl
     case c3 => have:=hi9.out; unfold maxLen; omega
     case c4 => have:=hi9.out; omega
     case c5 => have:=hb'.out.size; simp; omega
     intro v' w2 hown2 hgrow _
     go_wp2
     have hB2:Below w.heap.size w w2:=(hb'.out.alloc hb'.out.size _).grown hgrow (by have:=hb'.out.size; simp; omega) (fun k hk => (hown1.lt k hk).1)
     have hv2:IsN B32 w2 v1 (gk / 1000000000):=by
      refine (hv1'.out.later (below_alloc _ _)).grown (hown1.alloc _) hnil.out ?_ hgrow
      intro x hx k m
      rw [List.mem_map] at hx
      obtain ⟨_,_,rfl⟩:=hx
      simp
     have hlt:=Lib.hid (Nat.div_lt_self (Nat.pos_of_ne_zero h1'.out) (by decide:1<1000000000))
     go_roundg (gk / 1000000000)
     case measure => exact hlt.out
     case rel =>
      refine ⟨i+1,?_,hv2,?_,fun e => absurd e (by omega),Nat.succ_le_succ hi9.out,hB2⟩
      ·rw [hk'.out,Nat.div_div_eq_div_mul,show 9 * (i+1)=9 * i+9 from by omega,Nat.pow_add]
      ·rw [List.range_succ,List.map_append]
       have e2:[str (chunk 9 d)]=List.map (fun m => str (chunk 9 (X / 10 ^ (9 * m)))) [i]:=by
        simp only [List.map_cons,List.map_nil]
        rw [hd'.out,hk'.out,show (1000000000:Nat)=10 ^ 9 from by decide,chunk_mod _ _ _ (Nat.le_refl _)]
       rw [← e2]
       exact hown2
theorem text_any {X:Nat} {x:Value} {w:World} (hx:IsN B32 w x X) (sx:Sm X) :
  Calls Tryz.prog 75 #[x] w fun e w' => e=.returned (str (dec X))∧Below w.heap.size w w':=by
 rcases Nat.eq_zero_or_pos X with rfl | h0
 ·refine (textZero hx).mono ?_
  rintro e w' ⟨rfl,rfl⟩
  exact ⟨by rw [dec_small (by decide)]; rfl,Below.refl _ _⟩
 ·exact text_pos hx sx h0
theorem dec_len_le (n k:Nat) (hk:0<k) (h:n<10 ^ k):(dec n).length≤k:=by
 induction k generalizing n with
 | zero => omega
 | succ k ih =>
  by_cases e:n<10
  ·rw [dec_small e]; simp
  ·rw [dec_big (by omega),List.length_append]
   have hk':0<k:=by
    rcases Nat.eq_zero_or_pos k with rfl | h'
    ·simp at h; omega
    ·exact h'
   have:=ih (n / 10) hk' ((Nat.div_lt_iff_lt_mul (by decide)).2 (by rw [Nat.pow_succ] at h; exact h))
   simp; omega
theorem Sm.dec_len {X:Nat} (h:Sm X):(dec X).length≤32000000:=by
 have h1:=h.bits'
 have h2:X<10 ^ (32 * LIM):=Nat.lt_of_lt_of_le h1 (Nat.pow_le_pow_left (by decide) _)
 have:=LIM_eq
 have:=dec_len_le X (32 * LIM) (by omega) h2
 omega
def ratS (q:Rat):List UInt8:=(if qneg q=true then [45] else []) ++ dec (qnum q) ++ (if q.den=1 then [] else 47 :: dec q.den)
theorem bytes_eq {a b:ByteArray} (h:a.data.toList=b.data.toList):a=b:=by
 cases a; cases b
 simp only [ByteArray.mk.injEq]
 exact Array.toList_inj.1 h
set_option maxHeartbeats 1600000 in
set_option maxRecDepth 100000 in
theorem ratText_core {q:Rat} {g:Nat} {vn vd:Value} {w:World} (h:IsRAt w g vn vd q) (s:SmR q) :
  Calls Tryz.prog 77 #[.pointer (some ⟨g,0,none⟩)] w fun e w' => e=.returned (str (ratS q))∧Below w.heap.size w w':=by
 have hv:=Lib.hid (valid_any ⟨g,vn,vd,rfl,h⟩)
 have k1:=h.num
 have H1:=Lib.hid (text_any h.isNum s.num)
 have L1:=s.num.dec_len
 have L2:=s.den.dec_len
 have H2:=Lib.hid (fun (w1:World) (hb:Below w.heap.size w w1) => one_any (w:=w1) (h.isDen.later hb))
 have H3:=Lib.hid (fun (w1:World) (hb:Below w.heap.size w w1) => text_any (w:=w1) (h.isDen.later hb) s.den)
 have K:=Lib.hid (fun (w1:World) (hb:Below w.heap.size w w1) => (h.later hb))
 clear h s
 go_enter Tryz.func77,Tryz.ntmps77
 go_wp2_with fail
 refine hv.out.mono ?_
 rintro e w' ⟨rfl,rfl⟩
 clear hv
 go_wp2_with fail
 refine H1.out.mono ?_
 rintro e w1 ⟨rfl,hb1⟩
 have k2:=(K.out w1 hb1).neg
 have k3:=(K.out w1 hb1).den
 clear k1
 rcases hq:qneg q with _ | _
 all_goals
  rw [hq] at k2
  have HQ:=Lib.hid hq
  clear hq
  go_wp2_with fail
  refine (H2.out w1 hb1).mono ?_
  rintro e w' ⟨rfl,rfl⟩
  by_cases hd:q.den=1
  ·have hd':decide (q.den=1)=true:=by simp [hd]
   have HD:=Lib.hid hd
   clear hd
   go_wp2
   go_ret
   refine ⟨congrArg (fun b:ByteArray => Ending.returned (.string b)) (bytes_eq ?_),hb1⟩
   simp [ratS,HQ.out,HD.out]
  ·have hd':decide (q.den=1)=false:=by simp [hd]
   have HD:=Lib.hid hd
   clear hd
   go_wp2_with fail
   refine (H3.out w1 hb1).mono ?_
   rintro e w3 ⟨rfl,hb3⟩
   go_wp2
   go_ret
   refine ⟨congrArg (fun b:ByteArray => Ending.returned (.string b)) (bytes_eq ?_),hb1.trans (hb3.mono hb1.size)⟩
   simp [ratS,HQ.out,HD.out]
theorem ratText_any {q:Rat} {v:Value} {w:World} (h:IsR w v q) (s:SmR q) :
  Calls Tryz.prog 77 #[v] w fun e w' => e=.returned (str (ratS q))∧Below w.heap.size w w':=by
 obtain ⟨g,vn,vd,rfl,h⟩:=h
 exact ratText_core h s
theorem cut_none {a:List UInt8} {c:UInt8} (h:c ∉ a):Lib.cut a [c]=(a,[],false):=by
 have:Lib.index a [c] = -1:=by
  induction a with
  | nil => rfl
  | cons b a ih =>
   have h1:c ≠ b:=fun e => h (by simp [e])
   have h2:c ∉ a:=fun e => h (by simp [e])
   have h3:[c].isPrefixOf (b :: a)=false:=by simp [List.isPrefixOf,h1]
   rw [Lib.index,h3,ih h2]; rfl
 rw [Lib.cut,this]; rfl
theorem cut_some {a b:List UInt8} {c:UInt8} (h:c ∉ a):Lib.cut (a ++ c :: b) [c]=(a,b,true):=by
 have:Lib.index (a ++ c :: b) [c]=a.length:=by
  induction a with
  | nil => simp [Lib.index,List.isPrefixOf]
  | cons d a ih =>
   have h1:c ≠ d:=fun e => h (by simp [e])
   have h2:c ∉ a:=fun e => h (by simp [e])
   have h3:[c].isPrefixOf (d :: (a ++ c :: b))=false:=by simp [List.isPrefixOf,h1]
   have h4:(((a.length:Nat):Int) == -1)=false:=by rw [beq_eq_false_iff_ne]; omega
   rw [List.cons_append,Lib.index,h3,ih h2,h4]; simp
 rw [Lib.cut,this,if_pos (by omega)]
 simp
theorem cut_of {l:List UInt8} (c:UInt8) (h:c ∈ l):∃ a b,l=a ++ c :: b∧c ∉ a:=by
 induction l with
 | nil => simp at h
 | cons d l ih =>
  by_cases e:c=d
  ·subst e; exact ⟨[],l,rfl,by simp⟩
  ·have h2:c ∈ l:=by simpa [e] using h
   obtain ⟨a,b,rfl,h3⟩:=ih h2
   exact ⟨d :: a,b,rfl,by simp [e,h3]⟩
theorem dec_digits (n:Nat):∀ c ∈ dec n,48≤c.toNat∧c.toNat≤57:=by
 intro c hc
 have:=(dec_parts n).2.2.1
 rw [List.all_eq_true] at this
 exact (isD_iff c).1 (this c hc)
theorem dec_no_slash (n:Nat):(47:UInt8) ∉ dec n:=fun h => by have:=(dec_digits n _ h).1; exact absurd this (by decide)
def prN (l:List UInt8):Bool:=Lib.hasPrefix l [45]
def prC (l:List UInt8):List UInt8 × List UInt8 × Bool:=Lib.cut (Lib.trimPrefix l [45]) [47]
def prD (l:List UInt8):List UInt8:=if (prC l).2.2=true then (prC l).2.1 else [49]
def parseQ (l:List UInt8):Option Rat :=
 match parseD (prC l).1,parseD (prD l) with
 | some X,some Y => if Y=0 ∨ ((prC l).2.2=true∧Y=1) ∨ (prN l=true∧X=0) ∨ Nat.gcd X Y ≠ 1 then none else some (mkRat (sgn (prN l) X) Y)
 | _,_ => none
theorem trim45_pos (a:List UInt8):Lib.trimPrefix (45 :: a) [45]=a∧Lib.hasPrefix (45 :: a) [45]=true:=by
 simp [Lib.trimPrefix,Lib.hasPrefix,List.isPrefixOf]
theorem trim45_neg {a:List UInt8} (h:a.head? ≠ some 45):Lib.trimPrefix a [45]=a∧Lib.hasPrefix a [45]=false:=by
 cases a with
 | nil => exact ⟨rfl,rfl⟩
 | cons c a =>
  have:(45:UInt8) ≠ c:=fun e => h (by simp [e])
  simp [Lib.trimPrefix,Lib.hasPrefix,List.isPrefixOf,this]
theorem dec_head (n:Nat) (r:List UInt8):(dec n ++ r).head? ≠ some 45:=by
 intro h
 cases hd:dec n with
 | nil => exact dec_ne n hd
 | cons c l =>
  rw [hd] at h
  simp at h
  have:=(dec_digits n c (by rw [hd]; simp)).1
  rw [h] at this
  exact absurd this (by decide)
theorem ratS_parts (q:Rat):prN (ratS q)=qneg q∧prC (ratS q)=(dec (qnum q),(if q.den=1 then [] else dec q.den),decide (q.den ≠ 1))∧prD (ratS q)=dec q.den:=by
 have h1:Lib.trimPrefix (ratS q) [45]=dec (qnum q) ++ (if q.den=1 then [] else 47 :: dec q.den)∧Lib.hasPrefix (ratS q) [45]=qneg q:=by
  rcases h:qneg q with _ | _
  ·have:=trim45_neg (dec_head (qnum q) (if q.den=1 then [] else 47 :: dec q.den))
   simpa [ratS,h] using this
  ·have:=trim45_pos (dec (qnum q) ++ (if q.den=1 then [] else 47 :: dec q.den))
   simpa [ratS,h] using this
 have h2:prC (ratS q)=(dec (qnum q),(if q.den=1 then [] else dec q.den),decide (q.den ≠ 1)):=by
  rw [prC,h1.1]
  by_cases h:q.den=1
  ·simp only [h,if_pos,List.append_nil]
   rw [cut_none (dec_no_slash _)]; rfl
  ·simp only [h,if_false]
   rw [cut_some (dec_no_slash _)]; simp [h]
 refine ⟨h1.2,h2,?_⟩
 rw [prD,h2]
 by_cases h:q.den=1
 ·simp [h]; rw [dec_small (by decide)]; rfl
 ·show (if decide (q.den ≠ 1)=true then (if q.den=1 then [] else dec q.den) else [49])=_
  rw [if_neg h,if_pos (by simpa using h)]
theorem parseQ_ratS (q:Rat):parseQ (ratS q)=some q:=by
 obtain ⟨h1,h2,h3⟩:=ratS_parts q
 rw [parseQ,h1,h2,h3]
 simp only [parseD_dec]
 rw [if_neg,q_self]
 rintro (h | h | h | h)
 ·exact q.den_nz h
 ·simp at h
 ·have:=q_neg_zero h.2
  rw [h.1] at this; exact absurd this (by decide)
 ·exact h (q_coprime q)
theorem parseQ_iff (l:List UInt8) (q:Rat):parseQ l=some q ↔ l=ratS q:=by
 constructor
 ·intro h
  unfold parseQ at h
  split at h
  ·rename_i X Y hX hY
   split at h
   ·exact absurd h (by simp)
   ·rename_i hc
    rw [parseD_iff] at hX hY
    have hq:=Option.some.inj h
    simp only [not_or,ne_eq,Decidable.not_not,not_and] at hc
    obtain ⟨c1,c2,c3,c4⟩:=hc
    have d1:(mkRat (sgn (prN l) X) Y).den=Y:=by rw [mk_den _ _ _ c1,c4,Nat.div_one]
    have d2:qnum (mkRat (sgn (prN l) X) Y)=X:=by rw [qnum,mk_num _ _ _ c1,c4,Nat.div_one]
    have d3:qneg (mkRat (sgn (prN l) X) Y)=prN l:=by
     rw [qneg,mk_neg _ _ _ c1]
     rcases hn:prN l with _ | _
     ·rfl
     ·simp [c3 hn]
    rw [← hq,ratS,d1,d2,d3]
    have ht:l=(if prN l=true then [45] else []) ++ Lib.trimPrefix l [45]:=by
     by_cases h45:l.head? = some 45
     ·cases l with
      | nil => simp at h45
      | cons c l =>
       simp only [List.head?_cons,Option.some.injEq] at h45
       subst h45
       rw [prN,(trim45_pos l).1,(trim45_pos l).2]; rfl
     ·rw [prN,(trim45_neg h45).1,(trim45_neg h45).2]; rfl
    have e:Lib.trimPrefix l [45]=dec X ++ (if Y=1 then [] else 47 :: dec Y):=by
     by_cases hm:(47:UInt8) ∈ Lib.trimPrefix l [45]
     ·obtain ⟨a,b,hab,ha⟩:=cut_of 47 hm
      have hc:prC l=(a,b,true):=by rw [prC,hab,cut_some ha]
      rw [hc] at hX c2
      rw [prD,hc] at hY
      simp only [if_true] at hY
      rw [hab,show a=dec X from hX,hY,if_neg (c2 rfl)]
     ·have hc:prC l=(Lib.trimPrefix l [45],[],false):=by rw [prC,cut_none hm]
      rw [hc] at hX
      rw [prD,hc] at hY
      have hY1:Y=1:=dec_inj (by rw [← hY,dec_small (by decide)]; rfl)
      rw [show Lib.trimPrefix l [45]=dec X from hX,if_pos hY1,List.append_nil]
    rw [List.append_assoc,← e]
    exact ht
  ·exact absurd h (by simp)
 ·rintro rfl; exact parseQ_ratS q
def Ml (w:World):Prop:=∃ m,w.cell? ⟨1,0,none⟩=some (.int .i64 m)
theorem Ml.later {w w':World} (h:Ml w) (hb:Below w.heap.size w w'):Ml w' :=
 let ⟨m,h1⟩:=h; ⟨m,(hb.cell (p:=⟨1,0,none⟩) (World.block_lt_of_cell? w _ h1)).trans h1⟩
theorem parseD_sm {l:List UInt8} {X:Nat} (h:parseD l=some X) (hl:l.length≤100000):Sm X:=by
 unfold parseD at h
 split at h
 ·rename_i hc
  rw [← Option.some.inj h]
  exact dval_sm hc.2.2 hl
 ·exact absurd h (by simp)
theorem prC_len (l:List UInt8):(prC l).1.length≤l.length∧(prC l).2.1.length≤l.length:=by
 have h1:(Lib.trimPrefix l [45]).length≤l.length:=by
  unfold Lib.trimPrefix; split <;> simp
 have h2:∀ a:List UInt8,(Lib.cut a [47]).1.length≤a.length∧(Lib.cut a [47]).2.1.length≤a.length:=by
  intro a; unfold Lib.cut; split
  ·simp only [List.length_take,List.length_drop]; omega
  ·simp
 have:=h2 (Lib.trimPrefix l [45])
 exact ⟨Nat.le_trans this.1 h1,Nat.le_trans this.2 h1⟩
def RetP (o:Option Rat) (w:World) (e:Ending) (w':World):Prop :=
 match o with
 | some q => ∃ v,e=.returned (.tuple #[v,.int .i64 0])∧IsR w' v q∧Below w.heap.size w w'
 | none => e=.returned (.tuple #[.pointer none,.int .i64 7])∧Below w.heap.size w w'
def parseO (f n:Bool):Option Nat→Option Nat→Option Rat
 | some X,some Y => if Y=0 ∨ (f=true∧Y=1) ∨ (n=true∧X=0) ∨ Nat.gcd X Y ≠ 1 then none else some (mkRat (sgn n X) Y)
 | _,_ => none
theorem parseQ_O (l:List UInt8):parseQ l=parseO (prC l).2.2 (prN l) (parseD (prC l).1) (parseD (prD l)):=by
 unfold parseQ parseO; rfl
theorem parseO_none (f n:Bool) (o:Option Nat):parseO f n none o=none:=by cases o <;> rfl
theorem parseO_none' (f n:Bool) (o:Option Nat):parseO f n o none=none:=by cases o <;> rfl
set_option maxHeartbeats 1600000 in
set_option maxRecDepth 100000 in
theorem parse_core (s:ByteArray) (w:World) (hs:s.size≤10000) (hm:Ml w) :
  Calls Tryz.prog 174 #[.string s] w (RetP (parseQ s.data.toList) w):=by
 have hd:decide ((10000:Int)<(s.size:Int))=false:=by rw [decide_eq_false_iff_not]; omega
 obtain ⟨l,hl⟩:∃ l,l=s.data.toList:=⟨_,rfl⟩
 have hll:l.length≤10000:=by rw [hl,lenB]; exact hs
 have hlen:=prC_len l
 obtain ⟨R,hR⟩:∃ R:Ending→World→Prop,R=RetP (parseQ l) w:=⟨_,rfl⟩
 rw [← hl,← hR]
 have HR:=Lib.hid hR
 have C1:=Lib.hid (Tryz.strings_CutPrefix s ⟨#[45]⟩ w)
 obtain ⟨m,hm⟩:=hm
 obtain ⟨t,ht⟩:∃ t:ByteArray,t=⟨(Lib.trimPrefix l [45]).toArray⟩:=⟨_,rfl⟩
 have htl:t.data.toList=Lib.trimPrefix l [45]:=by rw [ht]
 have C2:=Lib.hid (Tryz.strings_Cut t ⟨#[47]⟩ m w (by
  have h1:(Lib.trimPrefix l [45]).length≤l.length:=by unfold Lib.trimPrefix; split <;> simp
  rw [Lib.size_eq,htl]; omega) hm)
 rw [show (⟨#[45]⟩:ByteArray).data.toList=[45] from rfl,← hl,← ht] at C1
 rw [show (⟨#[47]⟩:ByteArray).data.toList=[47] from rfl,htl] at C2
 have hn:Lib.hasPrefix l [45]=prN l:=rfl
 have hc:Lib.cut (Lib.trimPrefix l [45]) [47]=prC l:=rfl
 rw [hn] at C1
 rw [hc] at C2
 obtain ⟨n,hn'⟩:∃ n,n=prN l:=⟨_,rfl⟩
 rw [← hn'] at C1
 obtain ⟨a,ha⟩:∃ a:ByteArray,a=⟨(prC l).1.toArray⟩:=⟨_,rfl⟩
 obtain ⟨b,hb⟩:∃ b:ByteArray,b=⟨(prC l).2.1.toArray⟩:=⟨_,rfl⟩
 obtain ⟨f,hf⟩:∃ f,f=(prC l).2.2:=⟨_,rfl⟩
 rw [← ha,← hb,← hf] at C2
 have Ha:=Lib.hid ha
 have Hb:=Lib.hid hb
 have Hf:=Lib.hid hf
 have Hn:=Lib.hid hn'
 have Hlen:=Lib.hid hlen
 have Hll:=Lib.hid hll
 clear hR hm ht htl hn hc hn' ha hb hf hlen hll hl hs
 go_enter Tryz.func174,Tryz.ntmps174
 go_wp2_with fail
 refine C1.out.mono ?_
 rintro e w' ⟨rfl,rfl⟩
 go_wp2_with fail
 refine C2.out.mono ?_
 rintro e w1 ⟨rfl,nd,rfl⟩
 clear C1 C2
 obtain ⟨d,hd1⟩:∃ d:ByteArray,d=if f=true then b else ⟨#[49]⟩:=⟨_,rfl⟩
 obtain ⟨o1,ho1⟩:∃ o,o=parseD a.data.toList:=⟨_,rfl⟩
 obtain ⟨o2,ho2⟩:∃ o,o=parseD d.data.toList:=⟨_,rfl⟩
 have HA:Hid (a.data.toList=(prC l).1):=by show _=_; rw [Ha.out]
 have HDD:Hid (d.data.toList=prD l):=by
  show d.data.toList=prD l
  rw [prD,hd1,Hf.out,Hb.out]; split <;> simp
 have HO1:Hid (o1=parseD (prC l).1):=by show _=_; rw [ho1,HA.out]
 have HO2:Hid (o2=parseD (prD l)):=by show _=_; rw [ho2,HDD.out]
 have N1:=Lib.hid (fun w' => natText_any w' a (by rw [← lenB,HA.out]; have:=Hlen.out.1; have:=Hll.out; omega))
 have N2:=Lib.hid (fun w' => natText_any w' d (by
  rw [← lenB,HDD.out,prD]
  have:=Hlen.out.2; have:=Hll.out
  split
  ·omega
  ·simp))
 rw [← ho1] at N1
 rw [← ho2] at N2
 have HS1:Hid (∀ X,o1=some X→Sm X):=fun X hX => parseD_sm (by rw [← HO1.out]; exact hX) (by have:=Hlen.out.1; have:=Hll.out; omega)
 have HS2:Hid (∀ X,o2=some X→Sm X):=fun X hX => parseD_sm (by rw [← HO2.out]; exact hX) (by
  have:=Hlen.out.2; have:=Hll.out
  unfold prD
  split
  ·omega
  ·simp)
 have HP:Hid (parseQ l=parseO f n o1 o2):=by
  show _=_
  rw [parseQ_O,HO1.out,HO2.out,Hf.out,Hn.out]
 have hB1:Below w'.heap.size w' (w'.drewN nd):=below_drewN' _ _
 clear Ha Hb Hf Hn Hlen Hll HA HDD HO1 HO2 ho1 ho2
 obtain ⟨w1,hw1⟩:∃ w1,w1=w'.drewN nd:=⟨_,rfl⟩
 rw [← hw1] at hB1
 have HB1:=Lib.hid hB1
 clear hB1
 rw [← hw1]
 clear hw1
 rcases f with _ | _
 ·rw [if_neg (by decide)] at hd1
  subst hd1
  go_wp2_with fail
  refine (N1.out w1).mono ?_
  intro e w2 hr1
  rcases o1 with _ | X
  ·obtain ⟨rfl,hb2⟩:=hr1
   have HB2:=Lib.hid (HB1.out.trans (hb2.mono HB1.out.size))
   have hP:Hid (parseQ l=none):=by show _=_; rw [HP.out,parseO_none]
   clear HP hb2 HB1 N1 HS1 HS2
   go_wp2_with fail
   refine (N2.out w2).mono ?_
   intro e w3 hr2
   obtain ⟨v,k,rfl,hb3⟩:∃ v k,e=.returned (.tuple #[v,.bool k])∧Below w2.heap.size w2 w3:=by
    rcases o2 with _ | Y
    ·exact ⟨_,_,hr2.1,hr2.2⟩
    ·obtain ⟨v,h1,_,h3⟩:=hr2
     exact ⟨_,_,h1,h3⟩
   have HB3:=Lib.hid (HB2.out.trans (hb3.mono HB2.out.size))
   clear hr2 hb3 HB2 N2
   go_wp2
   rw [HR.out,hP.out]
   exact ⟨rfl,HB3.out⟩
  ·obtain ⟨v1,rfl,hv1,hb2⟩:=hr1
   have HB2:=Lib.hid (HB1.out.trans (hb2.mono HB1.out.size))
   have HV1:=Lib.hid hv1
   have SX:=Lib.hid (HS1.out X rfl)
   obtain ⟨a1,n1,cap1,rfl,hz1⟩:=hv1.shape (by decide)
   have HZ1:=Lib.hid hz1
   clear hb2 HB1 N1 HS1 hv1 hz1
   go_wp2_with fail
   refine (N2.out w2).mono ?_
   intro e w3 hr2
   rcases o2 with _ | Y
   ·obtain ⟨rfl,hb3⟩:=hr2
    have HB3:=Lib.hid (HB2.out.trans (hb3.mono HB2.out.size))
    have hP:Hid (parseQ l=none):=by show _=_; rw [HP.out,parseO_none']
    clear HP hb3 HB2 N2 HS2
    go_wp2
    rw [HR.out,hP.out]
    exact ⟨rfl,HB3.out⟩
   ·obtain ⟨v2,rfl,hv2,hb3⟩:=hr2
    have HB3:=Lib.hid (HB2.out.trans (hb3.mono HB2.out.size))
    have HV2:=Lib.hid hv2
    have HV1':=Lib.hid (HV1.out.later hb3)
    have SY:=Lib.hid (HS2.out Y rfl)
    obtain ⟨a2,n2,cap2,rfl,hz2⟩:=hv2.shape (by decide)
    clear hv2 hb3 HB2 N2 HS2 HV1
    by_cases hY0:Y=0
    ·obtain rfl:n2=0:=hz2.2 hY0
     have hP:Hid (parseQ l=none):=by show _=_; rw [HP.out,parseO,if_pos (.inl hY0)]
     clear HP hz2 hY0
     go_wp2
     rw [HR.out,hP.out]
     exact ⟨rfl,HB3.out⟩
    ·have hn2:((n2:Int) == 0)=false:=by
      rw [beq_eq_false_iff_ne]
      intro e
      exact hY0 (hz2.1 (by omega))
     have HY0:=Lib.hid hY0
     clear hz2 hY0
     have HO:=Lib.hid (one_any HV2.out)
     have HG:=Lib.hid (gcd_any HV1'.out HV2.out SX.out SY.out)
     rcases n with _ | _
     ·go_wp2_with fail
      refine HG.out.mono ?_
      rintro e w4 ⟨gv,rfl,hgv,hb4⟩
      have HB4:=Lib.hid (HB3.out.trans (hb4.mono HB3.out.size))
      have HBB:=Lib.hid hb4
      clear hb4
      go_wp2_with fail
      refine (one_any hgv).mono ?_
      rintro e w5 ⟨rfl,rfl⟩
      clear hgv
      by_cases hg:Nat.gcd X Y=1
      ·have hg':decide (Nat.gcd X Y=1)=true:=by rw [decide_eq_true_eq]; exact hg
       have hP:Hid (parseQ l=some (mkRat (sgn false X) Y)):=by
        show _=_
        rw [HP.out,parseO,if_neg]
        rintro (h | h | h | h)
        ·exact HY0.out h
        ·first | exact HY1.out h.2 | exact absurd h.1 (by decide)
        ·first | exact HX0.out h.2 | exact absurd h.1 (by decide)
        ·exact h hg
       have HGG:=Lib.hid hg
       clear hg HP
       go_wp2
       rw [HR.out,hP.out]
       refine ⟨_,rfl,IsR.made ?_ ?_ ?_,HB4.out.alloc HB4.out.size _⟩
       ·rw [qneg,mk_neg _ _ _ HY0.out]
        first | rfl | (have:=HX0.out; simp [this])
       ·rw [qnum,mk_num _ _ _ HY0.out,HGG.out,Nat.div_one]; exact HV1'.out.later HBB.out
       ·rw [mk_den _ _ _ HY0.out,HGG.out,Nat.div_one]; exact HV2.out.later HBB.out
      ·have hg':decide (Nat.gcd X Y=1)=false:=by rw [decide_eq_false_iff_not]; exact hg
       have hP:Hid (parseQ l=none):=by show _=_; rw [HP.out,parseO,if_pos (.inr (.inr (.inr hg)))]
       clear hg HP
       go_wp2
       rw [HR.out,hP.out]
       exact ⟨rfl,HB4.out⟩
     ·by_cases hX0:X=0
      ·obtain rfl:n1=0:=HZ1.out.2 hX0
       have hP:Hid (parseQ l=none):=by show _=_; rw [HP.out,parseO,if_pos (.inr (.inr (.inl ⟨rfl,hX0⟩)))]
       clear HP hX0 HG
       go_wp2_with fail
       rw [HR.out,hP.out]
       exact ⟨rfl,HB3.out⟩
      ·have hn1:((n1:Int) == 0)=false:=by
        rw [beq_eq_false_iff_ne]
        intro e
        exact hX0 (HZ1.out.1 (by omega))
       have HX0:=Lib.hid hX0
       clear hX0
       go_wp2_with fail
       refine HG.out.mono ?_
       rintro e w4 ⟨gv,rfl,hgv,hb4⟩
       have HB4:=Lib.hid (HB3.out.trans (hb4.mono HB3.out.size))
       have HBB:=Lib.hid hb4
       clear hb4
       go_wp2_with fail
       refine (one_any hgv).mono ?_
       rintro e w5 ⟨rfl,rfl⟩
       clear hgv
       by_cases hg:Nat.gcd X Y=1
       ·have hg':decide (Nat.gcd X Y=1)=true:=by rw [decide_eq_true_eq]; exact hg
        have hP:Hid (parseQ l=some (mkRat (sgn true X) Y)):=by
         show _=_
         rw [HP.out,parseO,if_neg]
         rintro (h | h | h | h)
         ·exact HY0.out h
         ·first | exact HY1.out h.2 | exact absurd h.1 (by decide)
         ·first | exact HX0.out h.2 | exact absurd h.1 (by decide)
         ·exact h hg
        have HGG:=Lib.hid hg
        clear hg HP
        go_wp2
        rw [HR.out,hP.out]
        refine ⟨_,rfl,IsR.made ?_ ?_ ?_,HB4.out.alloc HB4.out.size _⟩
        ·rw [qneg,mk_neg _ _ _ HY0.out]
         first | rfl | (have:=HX0.out; simp [this])
        ·rw [qnum,mk_num _ _ _ HY0.out,HGG.out,Nat.div_one]; exact HV1'.out.later HBB.out
        ·rw [mk_den _ _ _ HY0.out,HGG.out,Nat.div_one]; exact HV2.out.later HBB.out
       ·have hg':decide (Nat.gcd X Y=1)=false:=by rw [decide_eq_false_iff_not]; exact hg
        have hP:Hid (parseQ l=none):=by show _=_; rw [HP.out,parseO,if_pos (.inr (.inr (.inr hg)))]
        clear hg HP
        go_wp2
        rw [HR.out,hP.out]
        exact ⟨rfl,HB4.out⟩
 ·rw [if_pos rfl] at hd1
  subst hd1
  go_wp2_with fail
  refine (N1.out w1).mono ?_
  intro e w2 hr1
  rcases o1 with _ | X
  ·obtain ⟨rfl,hb2⟩:=hr1
   have HB2:=Lib.hid (HB1.out.trans (hb2.mono HB1.out.size))
   have hP:Hid (parseQ l=none):=by show _=_; rw [HP.out,parseO_none]
   clear HP hb2 HB1 N1 HS1 HS2
   go_wp2_with fail
   refine (N2.out w2).mono ?_
   intro e w3 hr2
   obtain ⟨v,k,rfl,hb3⟩:∃ v k,e=.returned (.tuple #[v,.bool k])∧Below w2.heap.size w2 w3:=by
    rcases o2 with _ | Y
    ·exact ⟨_,_,hr2.1,hr2.2⟩
    ·obtain ⟨v,h1,_,h3⟩:=hr2
     exact ⟨_,_,h1,h3⟩
   have HB3:=Lib.hid (HB2.out.trans (hb3.mono HB2.out.size))
   clear hr2 hb3 HB2 N2
   go_wp2
   rw [HR.out,hP.out]
   exact ⟨rfl,HB3.out⟩
  ·obtain ⟨v1,rfl,hv1,hb2⟩:=hr1
   have HB2:=Lib.hid (HB1.out.trans (hb2.mono HB1.out.size))
   have HV1:=Lib.hid hv1
   have SX:=Lib.hid (HS1.out X rfl)
   obtain ⟨a1,n1,cap1,rfl,hz1⟩:=hv1.shape (by decide)
   have HZ1:=Lib.hid hz1
   clear hb2 HB1 N1 HS1 hv1 hz1
   go_wp2_with fail
   refine (N2.out w2).mono ?_
   intro e w3 hr2
   rcases o2 with _ | Y
   ·obtain ⟨rfl,hb3⟩:=hr2
    have HB3:=Lib.hid (HB2.out.trans (hb3.mono HB2.out.size))
    have hP:Hid (parseQ l=none):=by show _=_; rw [HP.out,parseO_none']
    clear HP hb3 HB2 N2 HS2
    go_wp2
    rw [HR.out,hP.out]
    exact ⟨rfl,HB3.out⟩
   ·obtain ⟨v2,rfl,hv2,hb3⟩:=hr2
    have HB3:=Lib.hid (HB2.out.trans (hb3.mono HB2.out.size))
    have HV2:=Lib.hid hv2
    have HV1':=Lib.hid (HV1.out.later hb3)
    have SY:=Lib.hid (HS2.out Y rfl)
    obtain ⟨a2,n2,cap2,rfl,hz2⟩:=hv2.shape (by decide)
    clear hv2 hb3 HB2 N2 HS2 HV1
    by_cases hY0:Y=0
    ·obtain rfl:n2=0:=hz2.2 hY0
     have hP:Hid (parseQ l=none):=by show _=_; rw [HP.out,parseO,if_pos (.inl hY0)]
     clear HP hz2 hY0
     go_wp2
     rw [HR.out,hP.out]
     exact ⟨rfl,HB3.out⟩
    ·have hn2:((n2:Int) == 0)=false:=by
      rw [beq_eq_false_iff_ne]
      intro e
      exact hY0 (hz2.1 (by omega))
     have HY0:=Lib.hid hY0
     clear hz2 hY0
     have HO:=Lib.hid (one_any HV2.out)
     have HG:=Lib.hid (gcd_any HV1'.out HV2.out SX.out SY.out)
     by_cases hY1:Y=1
     ·have hd2:decide (Y=1)=true:=by rw [decide_eq_true_eq]; exact hY1
      have hP:Hid (parseQ l=none):=by show _=_; rw [HP.out,parseO,if_pos (.inr (.inl ⟨rfl,hY1⟩))]
      clear HP hY1 HG
      go_wp2_with fail
      refine HO.out.mono ?_
      rintro e w5 ⟨rfl,rfl⟩
      go_wp2
      rw [HR.out,hP.out]
      exact ⟨rfl,HB3.out⟩
     ·have hd2:decide (Y=1)=false:=by rw [decide_eq_false_iff_not]; exact hY1
      have HY1:=Lib.hid hY1
      clear hY1
      rcases n with _ | _
      ·go_wp2_with fail
       refine HO.out.mono ?_
       rintro e w5 ⟨rfl,rfl⟩
       go_wp2_with fail
       refine HG.out.mono ?_
       rintro e w4 ⟨gv,rfl,hgv,hb4⟩
       have HB4:=Lib.hid (HB3.out.trans (hb4.mono HB3.out.size))
       have HBB:=Lib.hid hb4
       clear hb4
       go_wp2_with fail
       refine (one_any hgv).mono ?_
       rintro e w5 ⟨rfl,rfl⟩
       clear hgv
       by_cases hg:Nat.gcd X Y=1
       ·have hg':decide (Nat.gcd X Y=1)=true:=by rw [decide_eq_true_eq]; exact hg
        have hP:Hid (parseQ l=some (mkRat (sgn false X) Y)):=by
         show _=_
         rw [HP.out,parseO,if_neg]
         rintro (h | h | h | h)
         ·exact HY0.out h
         ·first | exact HY1.out h.2 | exact absurd h.1 (by decide)
         ·first | exact HX0.out h.2 | exact absurd h.1 (by decide)
         ·exact h hg
        have HGG:=Lib.hid hg
        clear hg HP
        go_wp2
        rw [HR.out,hP.out]
        refine ⟨_,rfl,IsR.made ?_ ?_ ?_,HB4.out.alloc HB4.out.size _⟩
        ·rw [qneg,mk_neg _ _ _ HY0.out]
         first | rfl | (have:=HX0.out; simp [this])
        ·rw [qnum,mk_num _ _ _ HY0.out,HGG.out,Nat.div_one]; exact HV1'.out.later HBB.out
        ·rw [mk_den _ _ _ HY0.out,HGG.out,Nat.div_one]; exact HV2.out.later HBB.out
       ·have hg':decide (Nat.gcd X Y=1)=false:=by rw [decide_eq_false_iff_not]; exact hg
        have hP:Hid (parseQ l=none):=by show _=_; rw [HP.out,parseO,if_pos (.inr (.inr (.inr hg)))]
        clear hg HP
        go_wp2
        rw [HR.out,hP.out]
        exact ⟨rfl,HB4.out⟩
      ·by_cases hX0:X=0
       ·obtain rfl:n1=0:=HZ1.out.2 hX0
        have hP:Hid (parseQ l=none):=by show _=_; rw [HP.out,parseO,if_pos (.inr (.inr (.inl ⟨rfl,hX0⟩)))]
        clear HP hX0 HG
        go_wp2_with fail
        refine HO.out.mono ?_
        rintro e w5 ⟨rfl,rfl⟩
        go_wp2
        rw [HR.out,hP.out]
        exact ⟨rfl,HB3.out⟩
       ·have hn1:((n1:Int) == 0)=false:=by
         rw [beq_eq_false_iff_ne]
         intro e
         exact hX0 (HZ1.out.1 (by omega))
        have HX0:=Lib.hid hX0
        clear hX0
        go_wp2_with fail
        refine HO.out.mono ?_
        rintro e w5 ⟨rfl,rfl⟩
        go_wp2_with fail
        refine HG.out.mono ?_
        rintro e w4 ⟨gv,rfl,hgv,hb4⟩
        have HB4:=Lib.hid (HB3.out.trans (hb4.mono HB3.out.size))
        have HBB:=Lib.hid hb4
        clear hb4
        go_wp2_with fail
        refine (one_any hgv).mono ?_
        rintro e w5 ⟨rfl,rfl⟩
        clear hgv
        by_cases hg:Nat.gcd X Y=1
        ·have hg':decide (Nat.gcd X Y=1)=true:=by rw [decide_eq_true_eq]; exact hg
         have hP:Hid (parseQ l=some (mkRat (sgn true X) Y)):=by
          show _=_
          rw [HP.out,parseO,if_neg]
          rintro (h | h | h | h)
          ·exact HY0.out h
          ·first | exact HY1.out h.2 | exact absurd h.1 (by decide)
          ·first | exact HX0.out h.2 | exact absurd h.1 (by decide)
          ·exact h hg
         have HGG:=Lib.hid hg
         clear hg HP
         go_wp2
         rw [HR.out,hP.out]
         refine ⟨_,rfl,IsR.made ?_ ?_ ?_,HB4.out.alloc HB4.out.size _⟩
         ·rw [qneg,mk_neg _ _ _ HY0.out]
          first | rfl | (have:=HX0.out; simp [this])
         ·rw [qnum,mk_num _ _ _ HY0.out,HGG.out,Nat.div_one]; exact HV1'.out.later HBB.out
         ·rw [mk_den _ _ _ HY0.out,HGG.out,Nat.div_one]; exact HV2.out.later HBB.out
        ·have hg':decide (Nat.gcd X Y=1)=false:=by rw [decide_eq_false_iff_not]; exact hg
         have hP:Hid (parseQ l=none):=by show _=_; rw [HP.out,parseO,if_pos (.inr (.inr (.inr hg)))]
         clear hg HP
         go_wp2
         rw [HR.out,hP.out]
         exact ⟨rfl,HB4.out⟩
theorem parse_any (s:ByteArray) (w:World) (hs:s.size≤10000) (hm:Ml w) :
  Calls Tryz.prog 174 #[.string s] w (RetP (parseQ s.data.toList) w):=parse_core s w hs hm
abbrev T40:Nat:=1099511627776
theorem short_len {X n:Nat} {D:Nat→Nat} (r:Rep B32 D n X) (h:X≤T40):n≤2 :=
 r.len_le (by decide) (Nat.lt_of_le_of_lt h (by decide))
theorem short_big {X:Nat} {x:Value} {w:World} (hx:IsN B32 w x X) (h:T40<X) :
  Calls Tryz.prog 172 #[x] w fun e w' => e=.returned (.tuple #[.int .i64 0,.bool false])∧Below w.heap.size w w':=by
 have hc:cmpN X T40=1:=by unfold cmpN; rw [if_neg (by omega),if_pos h]
 have C:=Lib.hid (fun (w1:World) (y:Value) (hb:Below w.heap.size w w1) (hy:IsN B32 w1 y T40) => cmp_any (hx.later hb) hy)
 obtain ⟨a,n,cap,rfl,-⟩:=hx.shape (by decide)
 clear hx h
 go_enter Tryz.func172,Tryz.ntmps172
 go_wp2_with fail
 refine (natOf_any T40 (by decide) _).mono ?_
 rintro e w1 ⟨y,rfl,hy,hb1⟩
 go_wp2_with fail
 refine (C.out w1 y hb1 hy).mono ?_
 rintro e w2 ⟨rfl,k,rfl⟩
 rw [hc]
 clear C
 go_wp2
 go_ret2
 exact ⟨rfl,hb1.trans ((below_drewN' _ _).mono hb1.size)⟩
set_option maxHeartbeats 1000000 in
set_option maxRecDepth 100000 in
theorem short_small {X:Nat} {x:Value} {w:World} (hx:IsN B32 w x X) (h:X≤T40) :
  Calls Tryz.prog 172 #[x] w fun e w' => e=.returned (.tuple #[.int .i64 X,.bool true])∧Below w.heap.size w w':=by
 have hc:decide ((0:Int)<cmpN X T40)=false:=by
  rw [decide_eq_false_iff_not]; unfold cmpN
  split
  ·omega
  ·rw [if_neg (by omega)]; omega
 obtain ⟨cv,hcv⟩:∃ cv,cv=cmpN X T40:=⟨_,rfl⟩
 have C:=Lib.hid (fun (w1:World) (y:Value) (hb:Below w.heap.size w w1) (hy:IsN B32 w1 y T40) => cmp_any (hx.later hb) hy)
 rw [← hcv] at C hc
 clear hcv
 have hx':=Lib.hid hx
 obtain ⟨n,D,r,s⟩:=hx
 obtain ⟨ad,gb,cap,rfl,h1,-,-,h2⟩:=s.shape
 have hn:=short_len r h
 clear s
 go_enter Tryz.func172,Tryz.ntmps172
 go_wp2_with fail
 refine (natOf_any T40 (by decide) _).mono ?_
 rintro e w1 ⟨y,rfl,hy,hb1⟩
 go_wp2_with fail
 refine (C.out w1 y hb1 hy).mono ?_
 rintro e w2 ⟨rfl,k,rfl⟩
 clear C hy
 go_wp2
 have HH1:=Lib.hid h1
 have HB1:=Lib.hid hb1
 have HR:=Lib.hid r
 have HN:=Lib.hid hn
 have HX:=Lib.hid h
 obtain ⟨w2,hw2⟩:∃ w2,w2=w1.drewN k:=⟨_,rfl⟩
 have HB2:Hid (Below w.heap.size w w2):=by rw [hw2]; exact hb1.trans ((below_drewN' _ _).mono hb1.size)
 have HC:Hid (Cells w2 gb n D):=h2.later HB2.out (Nat.le_refl _)
 rw [← hw2]
 clear hw2 hb1 h1 h2 r hn h
 go_loopw [4,13] (fun av iv wy => ∃ i:Nat,i≤n∧iv=.int .i64 (i:Nat)∧av=.int .u64 ((fval B32 D i:Nat):Int)∧wy=w2) (fun _ iv _ => n - (intOf iv).toNat)
 case atStart => exact ⟨0,Nat.zero_le _,rfl,rfl,rfl⟩
 case round =>
  obtain ⟨i,hi,rfl,rfl,rfl⟩:=hrel
  by_cases hlt:i<n
  ·have hn2:=HN.out
   have hd:=HR.out.dig i hlt
   obtain rfl:ad=some ⟨gb,0,none⟩:=HH1.out (by omega)
   have hcell:wr.cell? ⟨gb,i,none⟩=some (.int .u32 (D i)):=HC.out i hlt
   obtain rfl | rfl:i=0 ∨ i=1:=by omega
   ·go_wp2
    refine ⟨⟨1,by omega,rfl,?_,trivial⟩,?_⟩
    ·rw [wrap_u64_nat (by unfold B32 at hd; omega),wrap_u64_nat (by unfold B32 at hd; omega),show fval B32 D 0=0 from rfl,u64_or_nat 0 (D 0) (by decide) (by unfold B32 at hd; omega)]
     simp [fval]
    ·show n - 1<n - 0
     omega
   ·go_wp2
    refine ⟨⟨2,by omega,rfl,?_,trivial⟩,?_⟩
    ·have e0:fval B32 D 1<4294967296:=by have:=fval_lt (B:=B32) (D:=D) 1 (fun j hj => HR.out.dig j (by omega)); rw [Nat.pow_one] at this; exact this
     have d1:D 1<4294967296:=hd
     have e1:(((D 1:Nat):Int) * 4294967296)=((D 1 * 4294967296:Nat):Int):=by simp
     have e2:D 1 * 4294967296<18446744073709551616:=by omega
     have e3:(fval B32 D 1) ||| (D 1 * 4294967296)=fval B32 D 2:=by
      rw [Nat.or_comm,nat_join 32 (D 1 * 4294967296) (fval B32 D 1) (Nat.mul_mod_left _ _) e0,show fval B32 D 2=fval B32 D 1+B32 ^ 1 * D 1 from rfl,Nat.pow_one,Nat.mul_comm,Nat.add_comm]
     rw [wrap_u64_nat (by omega),e1,wrap_u64_nat e2,u64_or_nat (fval B32 D 1) (D 1 * 4294967296) (by omega) e2,e3]
    ·show n - 2<n - 1
     omega
  ·obtain rfl:i=n:=by omega
   go_wp2
   go_ret2
   refine ⟨?_,HB2.out⟩
   have e1:=HR.out.eq
   have e2:=HX.out
   have e3:wrap64 ((fval B32 D i:Nat):Int)=(X:Int):=by
    rw [e1,wrap64]; unfold T40 at e2; omega
   exact congrArg (fun z => Ending.returned (.tuple #[.int .i64 z,.bool true])) e3
theorem short_any {X:Nat} {x:Value} {w:World} (hx:IsN B32 w x X) :
  Calls Tryz.prog 172 #[x] w fun e w' => e=.returned (.tuple #[.int .i64 (if X≤T40 then (X:Int) else 0),.bool (decide (X≤T40))])∧Below w.heap.size w w':=by
 by_cases h:X≤T40
 ·rw [if_pos h,show decide (X≤T40)=true from by simp [h]]
  exact short_small hx h
 ·rw [if_neg h,show decide (X≤T40)=false from by simp [h]]
  exact short_big hx (by omega)
structure Va where
 kind:Int
 num:Int
 den:Int
 str:List UInt8
deriving DecidableEq
abbrev Va.v (x:Va):Value:=.agg #[.int .i64 x.kind,.int .i64 x.num,.int .i64 x.den,.string ⟨x.str.toArray⟩]
theorem plain_any (x:Va) (w:World) :
  Calls Tryz.prog 113 #[x.v] w fun e w' => e=.returned (.bool (decide (x.den=0∧x.str=[])))∧Below w.heap.size w w':=by
 obtain ⟨k,n,d,s⟩:=x
 go_enter Tryz.func113,Tryz.ntmps113
 by_cases h:d=0
 ·subst h
  go_wp2
  go_ret
  refine ⟨ret_bool ?_,below_alloc _ _⟩
  cases s <;> simp
 ·go_wp2
  go_ret
  refine ⟨ret_bool ?_,below_alloc _ _⟩
  simp [h]
theorem missing_any (r:Int) (w:World) :
  Calls Tryz.prog 173 #[.int .i64 r] w fun e w' => e=.returned (Va.v ⟨0,r,0,[]⟩)∧Below w.heap.size w w':=by
 go_enter Tryz.func173,Tryz.ntmps173
 go_wp2
 go_returns
 exact ⟨rfl,below_alloc _ _⟩
theorem right1_any (r:Int) (w:World) :
  Calls Tryz.prog 115 #[.int .i32 r] w fun e w' => e=.returned (.bool (decide (r<32 ∨ 126<r)))∧w'=w:=by
 go_enter Tryz.func115,Tryz.ntmps115
 by_cases h:r<32
 ·have h1:decide (r<32)=true:=by simp [h]
  go_wp2
  go_ret
  exact ⟨ret_bool (by simp [h]),rfl⟩
 ·have h1:decide (r<32)=false:=by simp [h]
  go_wp2
  go_ret
  exact ⟨ret_bool (by simp),rfl⟩
theorem igcd_any (a b:Nat) (ha:a≤T40) (hb:b≤T40) (w:World) :
  Calls Tryz.prog 114 #[.int .i64 a,.int .i64 b] w (RetQ (.int .i64 (Nat.gcd a b)) w):=by
 go_enter Tryz.func114,Tryz.ntmps114
 go_wp2
 go_loopw [0,1] (fun x y wr => ∃ m n:Nat,x=.int .i64 m∧y=.int .i64 n∧m≤T40∧n≤T40∧Hid (Nat.gcd m n=Nat.gcd a b)∧Hid (∃ k,wr=w.drewN k)) (fun _ y _ => (intOf y).toNat)
 case atStart => exact ⟨a,b,rfl,rfl,ha,hb,rfl,0,rfl⟩
 case round =>
  obtain ⟨m,n,rfl,rfl,hm,hn,hg,hw⟩:=hrel
  by_cases h0:n=0
  ·subst h0
   go_wp2
   go_ret
   refine ⟨ret_int ?_,hw.out⟩
   rw [← hg.out,Nat.gcd_zero_right]
  ·have hz:((n:Int) == 0)=false:=by rw [beq_eq_false_iff_ne]; omega
   have hz2:(n:Int) ≠ 0:=by omega
   go_wp2
   go_quiet (fail)
   go_wp2
   have hlt:m % n<n:=Nat.mod_lt _ (by omega)
   refine ⟨⟨n,m % n,rfl,rfl,hn,by omega,?_,?_⟩,?_⟩
   ·show Nat.gcd n (m % n)=Nat.gcd a b
    rw [Nat.gcd_comm,← Nat.gcd_rec,Nat.gcd_comm]; exact hg.out
   ·obtain ⟨k,rfl⟩:=hw.out
    exact ⟨k+nq,by rw [World.drewN_drewN]⟩
   ·show ((m:Int) % (n:Int)).toNat<((n:Nat):Int).toNat
    rw [← Int.natCast_emod,Int.toNat_natCast,Int.toNat_natCast]; exact hlt
end Go.Proofs.YtdbnebhehiiakaaGreatDoor
