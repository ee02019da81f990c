/- Lemmas and contracts, each under its own condition: Volume, Index, At in plain words, and the plain law of SpaceInverse. Volume: both contracts. Index: both contracts. -/
import Derived.IntWalk
import Derived.BigQuiet
import Derived.Deep.RegionHeld3
import Derived.Deep.DeepCutAuto
import Derived.Deep.CutBlock
import Derived.Test.YtdbnebhehiiakaaGreatDoorS18
import Derived.Test.YtdbnebhehiiakaaGreatDoorS9
namespace Go.Proofs.YtdbnebhehiiakaaGreatDoor
def ext (x:DimT):Int:=x.hi - x.lo+1
def openB (d:List DimT):Bool:=d.any fun x => decide (x.hi=1073741825)
def volL:Int→List DimT→Option Int
 | n,[] => some n
 | n,x :: r => if 4611686018427387904 / ext x<n then none else volL (n * ext x) r
def volE (d:List DimT):Int:=if dimsE d ≠ 0 then dimsE d else if openB d=true then 3 else if volL 1 d=none then 14 else 0
def volQ (d:List DimT):Int:=if volE d=0 then (volL 1 d).getD 0 else 0
def atL:Int→List DimT→List Int × Int
 | i,[] => ([],i)
 | i,x :: r => ((x.lo+(atL i r).2 % ext x) :: (atL i r).1,(atL i r).2 / ext x)
def atE (d:List DimT) (i:Int):Int:=if volE d ≠ 0 then volE d else if i<0 ∨ volQ d≤i then 3 else 0
def atQ (d:List DimT) (i:Int):List Int:=if atE d i=0 then (atL i d).1 else []
def prodL:List DimT→Int
 | [] => 1
 | x :: r => ext x * prodL r
structure GoodX (x:DimT):Prop where
 lo : -1073741824≤x.lo
 le:x.lo≤x.hi
 hi:x.hi≤1073741824
theorem GoodX.ext {x:DimT} (h:GoodX x):1≤ext x∧ext x≤2147483649:=by
 have:=h.lo
 have:=h.le
 have:=h.hi
 unfold Proofs.YtdbnebhehiiakaaGreatDoor.ext
 omega
theorem openB_at {d:List DimT} {i:Nat} {x:DimT} (h:d[i]? = some x):openB (d.drop i)=(decide (x.hi=1073741825) || openB (d.drop (i+1))):=by
 rw [drop_cons h]; rfl
theorem openB_end {d:List DimT} {i:Nat} {x:DimT} (h:d[i]? = some x) (ho:openB d=false):x.hi ≠ 1073741825:=by
 intro e
 have h1:openB d=true:=List.any_eq_true.2 ⟨x,List.mem_of_getElem? h,decide_eq_true e⟩
 rw [h1] at ho; cases ho
theorem dims_goodX {d:List DimT} (h:dimsE d=0) (ho:openB d=false):∀ x ∈ d,GoodX x:=fun x hx => by
 have g:=(dims_good h).2.2 x hx
 obtain ⟨i,hi⟩:=List.getElem?_of_mem hx
 have:=openB_end hi ho
 have:=g.hi'
 exact ⟨g.lo,g.hi,by omega⟩
theorem volL_at {n:Int} {d:List DimT} {i:Nat} {x:DimT} (h:d[i]? = some x):volL n (d.drop i)=if 4611686018427387904 / ext x<n then none else volL (n * ext x) (d.drop (i+1)):=by
 rw [drop_cons h]; rfl
theorem vol_step {n e:Int} (hn:1≤n) (he:1≤e) (h:¬ 4611686018427387904 / e<n):1≤n * e∧n * e≤4611686018427387904:=by
 have h1:n≤4611686018427387904 / e:=by omega
 have h2:=(Int.le_ediv_iff_mul_le (by omega)).1 h1
 have h3:=Int.mul_le_mul hn he (by omega) (by omega)
 omega
theorem volL_prod:∀ {n m:Int} {d:List DimT},volL n d=some m→m=n * prodL d
 | n,m,[],h => by
  rw [volL] at h
  injection h with h
  rw [prodL,Int.mul_one,h]
 | n,m,x :: r,h => by
  rw [volL] at h
  split at h
  ·cases h
  ·rw [volL_prod h,prodL,Int.mul_assoc]
theorem volE_zero {d:List DimT} (h:volE d=0):dimsE d=0∧openB d=false∧∃ m,volL 1 d=some m∧volQ d=m∧m=prodL d:=by
 have h0:=h
 unfold volE at h
 split at h
 ·exact absurd h (by assumption)
 ·rename_i h1
  split at h
  ·cases h
  ·rename_i h2
   split at h
   ·cases h
   ·rename_i h3
    cases h4:volL 1 d with
    | none => exact absurd h4 h3
    | some m =>
     refine ⟨by omega,by simpa using h2,m,rfl,by unfold volQ; rw [if_pos h0,h4]; rfl,by have:=volL_prod h4; omega⟩
theorem volL_le:∀ {n m:Int} {d:List DimT},(∀ x ∈ d,GoodX x)→1≤n→n≤4611686018427387904→volL n d=some m→1≤m∧m≤4611686018427387904
 | n,m,[],_,h1,h2,h => by
  rw [volL] at h
  injection h with h
  omega
 | n,m,x :: r,hg,h1,h2,h => by
  rw [volL] at h
  split at h
  ·cases h
  ·rename_i h3
   have h4:=vol_step h1 (hg x (by simp)).ext.1 h3
   exact volL_le (fun y hy => hg y (by simp [hy])) h4.1 h4.2 h
theorem vol_range {d:List DimT} (h:volE d=0):1≤volQ d∧volQ d≤4611686018427387904∧volQ d=prodL d∧∀ x ∈ d,GoodX x:=by
 obtain ⟨h1,h2,m,h3,h4,h5⟩:=volE_zero h
 have hg:=dims_goodX h1 h2
 have:=volL_le hg (by omega) (by omega) h3
 exact ⟨by omega,by omega,by omega,hg⟩
theorem atL_length:∀ (i:Int) (d:List DimT),(atL i d).1.length=d.length
 | i,[] => rfl
 | i,x :: r => by rw [atL]; simp [atL_length i r]
theorem atL_at {i:Int} {d:List DimT} {k:Nat} {x:DimT} (h:d[k]? = some x):atL i (d.drop k)=((x.lo+(atL i (d.drop (k+1))).2 % ext x) :: (atL i (d.drop (k+1))).1,(atL i (d.drop (k+1))).2 / ext x):=by
 rw [drop_cons h,atL]
theorem atL_range:∀ {i:Int} {d:List DimT},(∀ x ∈ d,GoodX x)→0≤i→0≤(atL i d).2∧(atL i d).2≤i
 | i,[],_,h => by rw [atL]; simp; omega
 | i,x :: r,hg,h => by
  have h1:=atL_range (d:=r) (fun y hy => hg y (by simp [hy])) h
  have h2:=(hg x (by simp)).ext.1
  rw [atL]
  simp only
  have h3:=Int.ediv_nonneg h1.1 (show 0≤ext x by omega)
  have h4:=Int.ediv_le_self (ext x) h1.1
  omega
end Go.Proofs.YtdbnebhehiiakaaGreatDoor
namespace Go.Proofs.YtdbnebhehiiakaaGreatDoor
open Go.RowKit
def RetII (a b:Int) (w:World) (e:Ending) (w':World):Prop:=e=.returned (.tuple #[.int .i64 a,.int .i64 b])∧Below w.heap.size w w'
theorem extent_any (x:DimT) (h:GoodX x) (w:World):Calls Tryz.prog 55 #[dimV x] w (RetV' (.int .i64 (ext x)) w):=by
 have h1:=h.lo
 have h2:=h.le
 have h3:=h.hi
 obtain ⟨nm,lo,hi⟩:=x
 simp only at h1 h2 h3
 have w1:IntKind.i64.wrap (hi - lo)=hi - lo:=IntWalk.i64_in _ (by omega)
 have w2:IntKind.i64.wrap (hi - lo+1)=hi - lo+1:=IntWalk.i64_in _ (by omega)
 have he:ext ⟨nm,lo,hi⟩=hi - lo+1:=rfl
 rw [he]
 clear he h
 go_enter Tryz.func55,Tryz.ntmps55
 go_wp2
 go_ret
 exact ⟨rfl,below_alloc _ _⟩
theorem isOpen_any (x:DimT) (w:World):Calls Tryz.prog 54 #[dimV x] w (RetV' (.bool (x.hi == 1073741825)) w):=by
 obtain ⟨nm,lo,hi⟩:=x
 go_enter Tryz.func54,Tryz.ntmps54
 go_wp2
 go_ret
 exact ⟨rfl,below_alloc _ _⟩
theorem openB_beq {d:List DimT} {i:Nat} {x:DimT} (h:d[i]? = some x):openB (d.drop i)=((x.hi == (1073741825:Int)) || openB (d.drop (i+1))):=by
 rw [openB_at h]; rfl
set_option maxRecDepth 100000 in
theorem dimIdx_any (d:List DimT) (v:Value) (w:World) (hd:Dims w v d) :
  Calls Tryz.prog 96 #[v,.func (.func 54) #[] #[]] w (fun e w' => ∃ r:Int,e=.returned (.int .i64 r)∧decide (0≤r)=openB d∧Below w.heap.size w w'):=by
 have HD:=Lib.hid hd
 have hl:=hd.len
 obtain ⟨a,cap,rfl,c1,c2⟩:=hd.shape
 obtain ⟨R,hR⟩:∃ R,R=openB d:=⟨_,rfl⟩
 rw [← hR]
 have HR0:=Lib.hid hR
 clear hd hR
 go_enter Tryz.func96,Tryz.ntmps96
 go_wp2
 go_loopw [8] (fun iv wr => ∃ i:Nat,i≤d.length∧iv=.int .i64 (i:Nat)∧Hid (openB (d.drop i)=R)∧Below w.heap.size w wr) (fun iv _ => d.length - (intOf iv).toNat)
 case atStart => exact ⟨0,Nat.zero_le _,rfl,HR0.out.symm,Below.refl _ _⟩
 case round =>
  obtain ⟨i,hi,rfl,HN,hb⟩:=hrel
  have HB:=Lib.hid hb
  have HDW:=Lib.hid (HD.out.later DimR.lasts hb)
  clear hb
  by_cases hlt:i<d.length
  ·obtain ⟨g,o,x,ea,hx,hr⟩:=HDW.out.at i hlt
   subst ea
   obtain ⟨x0,x1,x2⟩:=hr
   have hn:=HN.out
   rw [openB_beq hx] at hn
   have C:=Lib.hid (fun w1 => isOpen_any x w1)
   obtain ⟨nm,lo,hi'⟩:=x
   simp only at x0 x1 x2 hn C
   have HI1:Hid (i+1≤d.length):=hlt
   have HI2:Hid (d.length - (i+1)<d.length - i):=by show _<_; omega
   have ib0:(0:Int)≤(i:Int):=by omega
   have ib1:(i:Int)<(d.length:Int):=by omega
   cases ho:(hi' == (1073741825:Int)) with
   | true =>
    rw [ho] at hn C
    have HR:Hid (R=true):=by show _=_; rw [← hn]; rfl
    clear ho hn hx HN
    go_wp2_with fail
    refine (C.out _).mono ?_
    rintro e w2 ⟨rfl,hb⟩
    have HB2:=Lib.hid (below_keep HB.out hb)
    clear hb C
    go_wp2
    go_ret
    rw [HR.out]
    exact ⟨_,rfl,decide_eq_true (by omega),HB2.out⟩
   | false =>
    rw [ho,Bool.false_or] at hn
    rw [ho] at C
    have HR:=Lib.hid hn
    clear ho hn hx HN
    go_wp2_with fail
    refine (C.out _).mono ?_
    rintro e w2 ⟨rfl,hb⟩
    have HB2:=Lib.hid (below_keep HB.out hb)
    clear hb C
    go_wp2
    exact ⟨⟨i+1,HI1.out,by go_num,HR.out,HB2.out⟩,HI2.out⟩
  ·obtain rfl:i=d.length:=by omega
   have hn:=HN.out
   rw [List.drop_length] at hn
   have HNN:Hid (R=false):=hn.symm
   clear hn HN
   go_wp2
   go_ret
   rw [HNN.out]
   exact ⟨_,rfl,decide_eq_false (by omega),HB.out⟩
theorem contains_any (d:List DimT) (v:Value) (w:World) (hd:Dims w v d) :
  Calls Tryz.prog 53 #[v,.func (.func 54) #[] #[]] w (RetV' (.bool (openB d)) w):=by
 have C:=Lib.hid (dimIdx_any d v w hd)
 obtain ⟨a,cap,rfl,c1,c2⟩:=hd.shape
 clear hd
 go_enter Tryz.func53,Tryz.ntmps53
 go_wp2_with fail
 refine C.out.mono ?_
 rintro e w2 ⟨r,rfl,hr,hb⟩
 have HB:=Lib.hid hb
 generalize openB d=R at *
 clear hb C
 go_wp2
 go_ret
 exact ⟨rfl,HB.out⟩
theorem volume_bad (d:List DimT) (v:Value) (w:World) (hd:Dims w v d) (hs:StrD d) (h:dimsE d ≠ 0) :
  Calls Tryz.prog 15 #[v] w (RetII 0 (dimsE d) w):=by
 have C:=Lib.hid (shape_any d v w hd hs)
 obtain ⟨a,cap,rfl,c1,c2⟩:=hd.shape
 have hne:(dimsE d != 0)=true:=by rw [bne_iff_ne]; exact h
 generalize dimsE d=r at *
 clear hd hs h
 go_enter Tryz.func15,Tryz.ntmps15
 go_wp2_with fail
 refine C.out.mono ?_
 rintro e w1 ⟨rfl,hb⟩
 have HB:=Lib.hid hb
 clear hb C
 go_wp2
 go_ret2
 exact ⟨rfl,HB.out⟩
theorem volume_open (d:List DimT) (v:Value) (w:World) (hd:Dims w v d) (hs:StrD d) (h:dimsE d=0) (ho:openB d=true) :
  Calls Tryz.prog 15 #[v] w (RetII 0 3 w):=by
 have C:=Lib.hid (shape_any d v w hd hs)
 have CO:=Lib.hid (fun w1 (hb:Below w.heap.size w w1) => contains_any d v w1 (hd.later DimR.lasts hb))
 rw [h] at C
 rw [ho] at CO
 obtain ⟨a,cap,rfl,c1,c2⟩:=hd.shape
 clear hd hs h ho
 go_enter Tryz.func15,Tryz.ntmps15
 go_wp2_with fail
 refine C.out.mono ?_
 rintro e w1 ⟨rfl,hb⟩
 have HB:=Lib.hid hb
 clear hb C
 go_wp2_with fail
 refine (CO.out _ HB.out).mono ?_
 rintro e w2 ⟨rfl,hb⟩
 have HB2:=Lib.hid (below_keep HB.out hb)
 clear hb CO
 go_wp2
 go_ret2
 exact ⟨rfl,HB2.out⟩
set_option maxHeartbeats 3200000 in
set_option maxRecDepth 100000 in
theorem volume_core (d:List DimT) (v:Value) (w:World) (hd:Dims w v d) (hs:StrD d) (h:dimsE d=0) (ho:openB d=false) (r e:Int) (H1:volL 1 d=none→r=0∧e=14) (H2:∀ m,volL 1 d=some m→r=m∧e=0) :
  Calls Tryz.prog 15 #[v] w (RetII r e w):=by
 have C:=Lib.hid (shape_any d v w hd hs)
 have CO:=Lib.hid (fun w1 (hb:Below w.heap.size w w1) => contains_any d v w1 (hd.later DimR.lasts hb))
 have HG:=Lib.hid (dims_goodX h ho)
 rw [h] at C
 rw [ho] at CO
 have HD:=Lib.hid hd
 have hl:=hd.len
 have HH1:=Lib.hid H1
 have HH2:=Lib.hid H2
 obtain ⟨a,cap,rfl,c1,c2⟩:=hd.shape
 clear hd hs h ho H1 H2
 go_enter Tryz.func15,Tryz.ntmps15
 go_wp2_with fail
 refine C.out.mono ?_
 rintro e w1 ⟨rfl,hb⟩
 have HB:=Lib.hid hb
 clear hb C
 go_wp2_with fail
 refine (CO.out _ HB.out).mono ?_
 rintro e w2 ⟨rfl,hb⟩
 have HB2:=Lib.hid (below_keep HB.out hb)
 clear hb CO
 go_wp2
 go_loopw [5,17] (fun nv iv wr => ∃ (i:Nat) (n:Int),i≤d.length∧nv=.int .i64 n∧iv=.int .i64 (i:Nat)∧1≤n∧n≤4611686018427387904∧Hid (volL n (d.drop i)=volL 1 d)∧Below w.heap.size w wr) (fun _ iv _ => d.length - (intOf iv).toNat)
 case atStart => exact ⟨0,1,Nat.zero_le _,rfl,rfl,(by omega),(by omega),rfl,HB2.out⟩
 case round =>
  obtain ⟨i,n,hi,rfl,rfl,hn1,hn2,HN,hb⟩:=hrel
  have HBR:=Lib.hid hb
  have HDW:=Lib.hid (HD.out.later DimR.lasts hb)
  clear hb
  by_cases hlt:i<d.length
  ·obtain ⟨g,o,x,ea,hx,hr⟩:=HDW.out.at i hlt
   subst ea
   obtain ⟨x0,x1,x2⟩:=hr
   have hn:=HN.out
   rw [volL_at hx] at hn
   have gx:=HG.out x (List.mem_of_getElem? hx)
   have CE:=Lib.hid (fun w1 => extent_any x gx w1)
   have ge:=gx.ext
   obtain ⟨E,hE⟩:∃ E,E=ext x:=⟨_,rfl⟩
   rw [← hE] at hn CE ge
   obtain ⟨nm,lo,hi'⟩:=x
   simp only at x0 x1 x2 CE
   have hdiv:Int.tdiv 4611686018427387904 E=4611686018427387904 / E:=Int.tdiv_eq_ediv_of_nonneg (by omega)
   have hd0:0≤4611686018427387904 / E:=Int.ediv_nonneg (by omega) (by omega)
   have hd1:4611686018427387904 / E≤4611686018427387904:=Int.ediv_le_self _ (by omega)
   have hst:=fun h => vol_step (n:=n) (e:=E) hn1 ge.1 h
   obtain ⟨D,hD⟩:∃ D,D=4611686018427387904 / E:=⟨_,rfl⟩
   rw [← hD] at hn hdiv hd0 hd1 hst
   have HST:=Lib.hid hst
   have hwD:IntKind.i64.wrap D=D:=IntWalk.i64_in _ (by omega)
   have hne:¬ E=0:=by omega
   have HNN:=Lib.hid hn
   have HI1:Hid (i+1≤d.length):=hlt
   have HI2:Hid (d.length - (i+1)<d.length - i):=by show _<_; omega
   have ib0:(0:Int)≤(i:Int):=by omega
   have ib1:(i:Int)<(d.length:Int):=by omega
   have HN1:=Lib.hid (And.intro hn1 hn2)
   clear hx hn HN gx hE hD hst hd0 hd1 ge hn1 hn2
   by_cases hlo:D<n
   ·have t1:decide (D<n)=true:=decide_eq_true hlo
    have hre:=HH1.out (by rw [← HNN.out,if_pos hlo])
    have HRE:=Lib.hid hre
    clear hlo hre
    go_wp2_with fail
    refine (CE.out _).mono ?_
    rintro e w3 ⟨rfl,hb⟩
    have HB3:=Lib.hid (below_keep HBR.out (below_keep (below_alloc wr (.cells #[strV nm,.int .i64 lo,.int .i64 hi'] 74)) hb))
    clear hb CE
    go_wp2
    go_ret2
    rw [HRE.out.1,HRE.out.2]
    exact ⟨rfl,HB3.out⟩
   ·have t1:decide (D<n)=false:=decide_eq_false hlo
    have hs:=HST.out hlo
    obtain ⟨M,hM⟩:∃ M,M=n * E:=⟨_,rfl⟩
    have hwm:IntKind.i64.wrap (n * E)=M:=by rw [hM]; exact IntWalk.i64_in _ (by omega)
    rw [← hM] at hs
    have HNX:Hid (volL M (d.drop (i+1))=volL 1 d):=by show _=_; rw [← HNN.out,if_neg hlo,hM]
    have HS:=Lib.hid hs
    clear hlo hs hM
    go_wp2_with fail
    refine (CE.out _).mono ?_
    rintro e w3 ⟨rfl,hb⟩
    have HB3:=Lib.hid (below_keep (below_alloc wr (.cells #[strV nm,.int .i64 lo,.int .i64 hi'] 74)) hb)
    have hcA:∀ o,w3.cell? ⟨wr.heap.size,o,none⟩=(wr.alloc (.cells #[strV nm,.int .i64 lo,.int .i64 hi'] 74)).cell? ⟨wr.heap.size,o,none⟩:=fun o => hb.cell (p:=⟨wr.heap.size,o,none⟩) (by simp)
    have hc0:w3.cell? ⟨wr.heap.size,0,none⟩=some (strV nm):=by rw [hcA,World.cell?_alloc_at _ _ _ _ rfl]; rfl
    have hc1:w3.cell? ⟨wr.heap.size,1,none⟩=some (.int .i64 lo):=by rw [hcA,World.cell?_alloc_at _ _ _ _ rfl]; rfl
    have hc2:w3.cell? ⟨wr.heap.size,2,none⟩=some (.int .i64 hi'):=by rw [hcA,World.cell?_alloc_at _ _ _ _ rfl]; rfl
    clear hb hcA
    go_wp2_with fail
    refine (CE.out _).mono ?_
    rintro e w4 ⟨rfl,hb⟩
    have HB4:=Lib.hid (below_keep HBR.out (below_keep HB3.out hb))
    clear hb CE hc0 hc1 hc2
    go_wp2
    exact ⟨⟨i+1,M,HI1.out,rfl,by go_num,HS.out.1,HS.out.2,HNX.out,HB4.out⟩,HI2.out⟩
  ·obtain rfl:i=d.length:=by omega
   have hn:=HN.out
   rw [List.drop_length,volL] at hn
   have HRE:=Lib.hid (HH2.out n hn.symm)
   clear hn HN
   go_wp2
   go_ret2
   rw [HRE.out.1,HRE.out.2]
   exact ⟨rfl,HBR.out⟩
theorem volume_any (d:List DimT) (v:Value) (w:World) (hd:Dims w v d) (hs:StrD d) :
  Calls Tryz.prog 15 #[v] w (RetII (volQ d) (volE d) w):=by
 by_cases h:dimsE d=0
 ·cases ho:openB d with
  | true =>
   have hE:volE d=3:=by unfold volE; rw [if_neg (fun h' => h' h),if_pos ho]
   have hQ:volQ d=0:=by unfold volQ; rw [hE,if_neg (by decide)]
   rw [hE,hQ]
   exact volume_open d v w hd hs h ho
  | false =>
   have hE:volE d=if volL 1 d=none then 14 else 0:=by unfold volE; rw [if_neg (fun h' => h' h),if_neg (by rw [ho]; decide)]
   refine volume_core d v w hd hs h ho _ _ (fun hn => ?_) (fun m hm => ?_)
   ·rw [if_pos hn] at hE
    exact ⟨by unfold volQ; rw [hE,if_neg (by decide)],hE⟩
   ·rw [if_neg (by rw [hm]; exact fun h => by cases h)] at hE
    exact ⟨by unfold volQ; rw [hE,if_pos rfl,hm]; rfl,hE⟩
 ·have hE:volE d=dimsE d:=by unfold volE; rw [if_pos h]
  have hQ:volQ d=0:=by unfold volQ; rw [hE,if_neg h]
  rw [hE,hQ]
  exact volume_bad d v w hd hs h
end Go.Proofs.YtdbnebhehiiakaaGreatDoor
namespace Go.Proofs.YtdbnebhehiiakaaGreatDoor
open Go.RowKit
end Go.Proofs.YtdbnebhehiiakaaGreatDoor
