/- Lemmas and contracts, each under its own condition: space: Schema, of, Compare: contracts. space: of, Compare: contracts. -/
import Derived.Test.YtdbnebhehiiakaaGreatDoorS3
import Derived.Test.YtdbnebhehiiakaaGreatDoorShlf
namespace Go.Proofs.YtdbnebhehiiakaaGreatDoor
open Go.RowKit
theorem attrs_drop (met:List (List UInt8)) {a:List AttrT} {i:Nat} {x:AttrT} (h:a[i]? = some x):attrsL met (a.drop i)=if nameB x.name=false ∨ x.name ∈ met then 11 else if x.ty<1 ∨ 4<x.ty then 12 else attrsL (met ++ [x.name]) (a.drop (i+1)):=by
 rw [drop_cons h,attrsL]
def anames (a:List AttrT):List (List UInt8):=a.map AttrT.name
theorem anames_snoc {a:List AttrT} {i:Nat} {x:AttrT} (h:a[i]? = some x):anames (a.take (i+1))=anames (a.take i) ++ [x.name]:=by
 rw [take_snoc' h]; simp [anames]
theorem schema_bad (d:List DimT) (a:List AttrT) (v u:Value) (w:World) (hd:Dims w v d) (ha:Attrs w u a) (hs:StrD d) (h:dimsE d ≠ 0) :
  Calls Tryz.prog 68 #[v,u] w (RetV' (.int .i64 (dimsE d)) w):=by
 have C:Hid (Calls Tryz.prog 95 #[v,.map (some w.heap.size)] (w.alloc (.map #[] 0)) (RetDims [] d w.heap.size (dimsE d) (w.alloc (.map #[] 0)))):=dims_any d v w.heap.size [] (w.alloc (.map #[] 0)) (hd.later DimR.lasts (below_alloc _ _)) (MetS.made w) (by simp) hs
 obtain ⟨av,cap,rfl,c1,c2⟩:=hd.shape
 obtain ⟨au,capu,rfl,u1,u2⟩:=ha.shape
 have hmm:=@run_makeMap Tryz.prog
 have hne:(dimsE d != 0)=true:=by rw [bne_iff_ne]; exact h
 clear hd ha hs h
 go_enter Tryz.func68,Tryz.ntmps68
 go_wp2_with fail
 refine C.out.mono ?_
 rintro e w1 ⟨rfl,hg,-⟩
 have HB:=Lib.hid (below_of_grown (below_alloc w (.map #[] 0)) (Nat.le_refl _) hg)
 clear hg hmm C
 go_wp2
 go_ret
 exact ⟨rfl,HB.out⟩
theorem schema_many (d:List DimT) (a:List AttrT) (v u:Value) (w:World) (hd:Dims w v d) (ha:Attrs w u a) (hs:StrD d) (h:dimsE d=0) (h2:a.length<1 ∨ 6<a.length) :
  Calls Tryz.prog 68 #[v,u] w (RetV' (.int .i64 9) w):=by
 have C:Hid (Calls Tryz.prog 95 #[v,.map (some w.heap.size)] (w.alloc (.map #[] 0)) (RetDims [] d w.heap.size (dimsE d) (w.alloc (.map #[] 0)))):=dims_any d v w.heap.size [] (w.alloc (.map #[] 0)) (hd.later DimR.lasts (below_alloc _ _)) (MetS.made w) (by simp) hs
 rw [h] at C
 have hlen:=ha.len
 obtain ⟨av,cap,rfl,c1,c2⟩:=hd.shape
 obtain ⟨au,capu,rfl,u1,u2⟩:=ha.shape
 have hmm:=@run_makeMap Tryz.prog
 clear hd ha hs h
 have h3:((a.length:Int)<1) ∨ (¬ ((a.length:Int)<1)∧(6:Int)<a.length):=by omega
 clear h2
 rcases h3 with h3 | ⟨h3,h4⟩
 all_goals
  go_enter Tryz.func68,Tryz.ntmps68
  go_wp2_with fail
  refine C.out.mono ?_
  rintro e w1 ⟨rfl,hg,-⟩
  have HB:=Lib.hid (below_of_grown (below_alloc w (.map #[] 0)) (Nat.le_refl _) hg)
  clear hg hmm C
  go_wp2
  go_ret
  exact ⟨rfl,HB.out⟩
set_option maxHeartbeats 3200000 in
set_option maxRecDepth 100000 in
theorem schema_good (d:List DimT) (a:List AttrT) (v u:Value) (w:World) (hd:Dims w v d) (ha:Attrs w u a) (hs:StrD d) (hsa:StrA a) (h:dimsE d=0) (h1:1≤a.length) (h2:a.length≤6) :
  Calls Tryz.prog 68 #[v,u] w (RetV' (.int .i64 (attrsL (names d) a)) w):=by
 have C:Hid (Calls Tryz.prog 95 #[v,.map (some w.heap.size)] (w.alloc (.map #[] 0)) (RetDims [] d w.heap.size (dimsE d) (w.alloc (.map #[] 0)))):=dims_any d v w.heap.size [] (w.alloc (.map #[] 0)) (hd.later DimR.lasts (below_alloc _ _)) (MetS.made w) (by simp) hs
 rw [h] at C
 have hdl:d.length≤4:=by
  unfold dimsE at h
  split at h
  ·cases h
  ·omega
 have HA:=Lib.hid ha
 have HS:=Lib.hid hsa
 obtain ⟨av,cap,rfl,c1,c2⟩:=hd.shape
 obtain ⟨au,capu,rfl,u1,u2⟩:=ha.shape
 have hmm:=@run_makeMap Tryz.prog
 have h5:¬ ((a.length:Int)<1):=by omega
 have h6:¬ ((6:Int)<a.length):=by omega
 clear hd ha hs h hsa
 go_enter Tryz.func68,Tryz.ntmps68
 go_wp2_with fail
 refine C.out.mono ?_
 rintro e w1 ⟨rfl,hg,hm⟩
 have hm:=hm rfl
 rw [List.nil_append] at hm
 have HB:=Lib.hid (below_of_grown (below_alloc w (.map #[] 0)) (Nat.le_refl _) hg)
 have HM1:=Lib.hid hm
 have HA1:=Lib.hid (HA.out.later AttrR.lasts HB.out)
 clear hg hmm C hm
 go_wp2
 go_loopw [26] (fun iv wr => ∃ i:Nat,i≤a.length∧iv=.int .i64 (i:Nat)∧Hid (attrsL (names d ++ anames (a.take i)) (a.drop i)=attrsL (names d) a)∧MetS wr w.heap.size (names d ++ anames (a.take i))∧w1.grownBy wr (some w.heap.size)) (fun iv _ => a.length - (intOf iv).toNat)
 case atStart => exact ⟨0,Nat.zero_le _,rfl,(by show _=_; simp [anames]),(by simpa [anames] using HM1.out),grown_of_below (Below.refl _ _) _⟩
 case round =>
  obtain ⟨i,hi,rfl,HN,hmet,hgr⟩:=hrel
  have HMT:=Lib.hid hmet
  have HG:=Lib.hid hgr
  have HDW:=Lib.hid (Attrs.grown HA1.out HM1.out.map hgr)
  have HBW:=Lib.hid (below_of_grown HB.out (Nat.le_refl _) hgr)
  by_cases hlt:i<a.length
  ·obtain ⟨g,o,x,ea,hx,hr⟩:=HDW.out.at i hlt
   subst ea
   obtain ⟨x0,x1⟩:=hr
   have HX:=Lib.hid hx
   have hn:=HN.out
   rw [attrs_drop _ hx] at hn
   have HNN:=Lib.hid hn
   have HXS:=Lib.hid (HS.out x (List.mem_of_getElem? hx))
   obtain ⟨nm,ty⟩:=x
   simp only at x0 x1
   have CN:=Lib.hid (fun w1 => name_any nm w1 HXS.out)
   clear hmet hgr hx hn
   cases hnb:nameB nm with
   | false =>
    have HR:Hid (attrsL (names d) a=11):=by show _=_; rw [← HNN.out,if_pos (.inl hnb)]
    simp only [hnb] at CN
    clear hnb
    go_wp2_with fail
    refine (CN.out _).mono ?_
    rintro e w2 ⟨rfl,hb1⟩
    have HB1:=Lib.hid (below_keep HBW.out (below_keep (below_alloc wr (.cells #[strV nm,.int .i64 ty] 81)) hb1))
    clear hb1 CN
    go_wp2
    go_ret
    rw [HR.out]
    exact ⟨rfl,HB1.out⟩
   | true =>
    simp only [hnb] at CN
    have hnb':=Lib.hid hnb
    clear hnb
    by_cases hmem:nm ∈ names d ++ anames (a.take i)
    ·have HR:Hid (attrsL (names d) a=11):=by show _=_; rw [← HNN.out,if_pos (.inr hmem)]
     have hd1:decide (nm ∈ names d ++ anames (a.take i))=true:=decide_eq_true hmem
     clear hmem
     go_wp2_with fail
     refine (CN.out _).mono ?_
     rintro e w2 ⟨rfl,hb1⟩
     have hb2:=below_keep (below_alloc wr (.cells #[strV nm,.int .i64 ty] 81)) hb1
     have HB1:=Lib.hid (below_keep HBW.out hb2)
     have hlk:=(HMT.out.later hb2 HMT.out.lt).look nm HXS.out
     rw [hd1] at hlk
     have hc0:w2.cell? ⟨wr.heap.size,0,none⟩=some (strV nm):=by
      rw [hb1.cell (p:=⟨wr.heap.size,0,none⟩) (by simp),World.cell?_alloc_at _ _ _ _ rfl]; rfl
     clear hb1 hb2 CN hd1
     go_wp2
     go_ret
     rw [HR.out]
     exact ⟨rfl,HB1.out⟩
    ·have hd1:decide (nm ∈ names d ++ anames (a.take i))=false:=decide_eq_false hmem
     have hn1:=HNN.out
     by_cases hbd:1≤ty∧ty≤4
     ·obtain ⟨b1,b2⟩:=hbd
      rw [if_neg (by simp [hnb'.out,hmem]),if_neg (by simp; omega)] at hn1
      have HN1:=Lib.hid hn1
      have hlen:(names d ++ anames (a.take i)).length<1000:=by simp [names,anames]; omega
      have HL:=Lib.hid hlen
      clear hmem hn1 HNN hlen
      go_wp2_with fail
      refine (CN.out _).mono ?_
      rintro e w2 ⟨rfl,hb1⟩
      have hb2:=below_keep (below_alloc wr (.cells #[strV nm,.int .i64 ty] 81)) hb1
      have HB1:=Lib.hid (grown_of_below hb2 (some w.heap.size))
      have hm1:=HMT.out.later hb2 HMT.out.lt
      have hlk:=hm1.look nm HXS.out
      rw [hd1] at hlk
      obtain ⟨w3,hadd,hm2,hg2⟩:=hm1.add nm HXS.out HL.out
      have HM2:=Lib.hid hm2
      have HG2:=Lib.hid hg2
      have hcA:∀ o,w2.cell? ⟨wr.heap.size,o,none⟩=(wr.alloc (.cells #[strV nm,.int .i64 ty] 81)).cell? ⟨wr.heap.size,o,none⟩:=fun o => hb1.cell (p:=⟨wr.heap.size,o,none⟩) (by simp)
      have hc0:w2.cell? ⟨wr.heap.size,0,none⟩=some (strV nm):=by rw [hcA,World.cell?_alloc_at _ _ _ _ rfl]; rfl
      have hc1:w2.cell? ⟨wr.heap.size,1,none⟩=some (.int .i64 ty):=by rw [hcA,World.cell?_alloc_at _ _ _ _ rfl]; rfl
      clear hb1 hb2 CN hd1 hm1 hm2 hg2 hcA
      go_wp2
      refine ⟨⟨i+1,by omega,by go_num,?_,?_,?_⟩,by show a.length - _<a.length - _; simp [intOf]; omega⟩
      ·show _=_
       rw [anames_snoc HX.out,← List.append_assoc]
       exact HN1.out
      ·rw [anames_snoc HX.out,← List.append_assoc]
       exact HM2.out
      ·exact HG.out.trans (HB1.out.trans HG2.out)
     ·rw [if_neg (by simp [hnb'.out,hmem]),if_pos (by simp; omega)] at hn1
      have HR:Hid (attrsL (names d) a=12):=hn1.symm
      have hcase:ty<1 ∨ (1≤ty∧4<ty):=by omega
      clear hmem hn1 HNN hbd
      rcases hcase with b1 | ⟨b1,b2⟩
      all_goals
       go_wp2_with fail
       refine (CN.out _).mono ?_
       rintro e w2 ⟨rfl,hb1⟩
       have hb2:=below_keep (below_alloc wr (.cells #[strV nm,.int .i64 ty] 81)) hb1
       have HB1:=Lib.hid (below_keep HBW.out hb2)
       have hlk:=(HMT.out.later hb2 HMT.out.lt).look nm HXS.out
       rw [hd1] at hlk
       have hcA:∀ o,w2.cell? ⟨wr.heap.size,o,none⟩=(wr.alloc (.cells #[strV nm,.int .i64 ty] 81)).cell? ⟨wr.heap.size,o,none⟩:=fun o => hb1.cell (p:=⟨wr.heap.size,o,none⟩) (by simp)
       have hc0:w2.cell? ⟨wr.heap.size,0,none⟩=some (strV nm):=by rw [hcA,World.cell?_alloc_at _ _ _ _ rfl]; rfl
       have hc1:w2.cell? ⟨wr.heap.size,1,none⟩=some (.int .i64 ty):=by rw [hcA,World.cell?_alloc_at _ _ _ _ rfl]; rfl
       clear hb1 hb2 CN hd1 hcA
       go_wp2
       go_ret
       rw [HR.out]
       exact ⟨rfl,HB1.out⟩
  ·obtain rfl:i=a.length:=by omega
   have hn:=HN.out
   rw [List.drop_length,attrsL] at hn
   have HNN:=Lib.hid hn
   clear hmet hgr hn HN
   go_wp2
   go_ret
   rw [← HNN.out]
   exact ⟨rfl,HBW.out⟩
theorem schema_any (d:List DimT) (a:List AttrT) (v u:Value) (w:World) (hd:Dims w v d) (ha:Attrs w u a) (hs:StrD d) (hsa:StrA a) :
  Calls Tryz.prog 68 #[v,u] w (RetV' (.int .i64 (schemaE d a)) w):=by
 unfold schemaE
 by_cases h:dimsE d=0
 ·rw [if_neg (by simp [h])]
  by_cases h2:a.length<1 ∨ 6<a.length
  ·rw [if_pos h2]
   exact schema_many d a v u w hd ha hs h h2
  ·rw [if_neg h2]
   exact schema_good d a v u w hd ha hs hsa h (by omega) (by omega)
 ·rw [if_pos h]
  exact schema_bad d a v u w hd ha hs h
theorem of_short (d:List DimT) (c:List Int) (v u:Value) (w:World) (hd:Dims w v d) (hc:Ints w u c) (h:c.length ≠ d.length) :
  Calls Tryz.prog 50 #[v,u] w (RetV' (.bool false) w):=by
 obtain ⟨a,cap,rfl,c1,c2⟩:=hd.shape
 obtain ⟨a',cap',rfl,c1',c2'⟩:=hc.shape
 have h':¬ ((c.length:Int)=d.length):=by omega
 clear hd hc h
 go_enter Tryz.func50,Tryz.ntmps50
 go_wp2
 go_ret
 exact ⟨rfl,Below.refl _ _⟩
theorem ofL_drop {d:List DimT} {c:List Int} {i:Nat} {x:DimT} {y:Int} (hx:d[i]? = some x) (hy:c[i]? = some y):ofL (d.drop i) (c.drop i)=if y<x.lo ∨ x.last<y then false else ofL (d.drop (i+1)) (c.drop (i+1)):=by
 rw [drop_cons hx,drop_cons hy,ofL]
set_option maxHeartbeats 1600000 in
theorem of_core (d:List DimT) (c:List Int) (v u:Value) (w:World) (hd:Dims w v d) (hc:Ints w u c) (h:c.length=d.length) :
  Calls Tryz.prog 50 #[v,u] w (RetV' (.bool (ofL d c)) w):=by
 have HD:=Lib.hid hd
 have HC:=Lib.hid hc
 have HL:=Lib.hid h
 have hl:=hd.len
 obtain ⟨a,cap,rfl,c1,c2⟩:=hd.shape
 obtain ⟨a',cap',rfl,c1',c2'⟩:=hc.shape
 simp only [h] at c1' HC ⊢
 clear hd hc h
 go_enter Tryz.func50,Tryz.ntmps50
 go_wp2
 go_loopw [14] (fun iv wr => ∃ i:Nat,i≤d.length∧iv=.int .i64 (i:Nat)∧Hid (ofL (d.drop i) (c.drop i)=ofL d c)∧Below w.heap.size w wr) (fun iv _ => d.length - (intOf iv).toNat)
 case atStart => exact ⟨0,Nat.zero_le _,rfl,rfl,Below.refl _ _⟩
 case round =>
  obtain ⟨i,hi,rfl,HN,hb⟩:=hrel
  have HB:=Lib.hid hb
  have HDW:=Lib.hid (HD.out.later DimR.lasts hb)
  have HCW:=Lib.hid (HC.out.later IntR.lasts hb)
  by_cases hlt:i<d.length
  ·obtain ⟨g,o,x,ea,hx,hr⟩:=HDW.out.at i hlt
   obtain ⟨g',o',y,ea',hy,hr'⟩:=HCW.out.at i (by rw [HL.out]; exact hlt)
   subst ea ea'
   obtain ⟨x0,x1,x2⟩:=hr
   rw [Nat.mul_one] at hr'
   unfold IntR at hr'
   have hn:=HN.out
   rw [ofL_drop hx hy] at hn
   have HNN:=Lib.hid hn
   obtain ⟨nm,lo,hi'⟩:=x
   simp only at x0 x1 x2
   have CL:=Lib.hid (fun w1 => last_any ⟨nm,lo,hi'⟩ w1)
   generalize hL:DimT.last ⟨nm,lo,hi'⟩=L at CL HNN
   clear hL hb hx hy hn
   by_cases h1:y<lo
   ·have HR:Hid (ofL d c=false):=by show _=_; rw [← HNN.out,if_pos (.inl h1)]
    go_wp2
    go_ret
    rw [HR.out]
    exact ⟨rfl,HB.out⟩
   ·by_cases h2:L<y
    ·have HR:Hid (ofL d c=false):=by show _=_; rw [← HNN.out,if_pos (.inr h2)]
     go_wp2_with fail
     refine (CL.out _).mono ?_
     rintro e w1 ⟨rfl,hb1⟩
     have HB1:=Lib.hid (below_keep HB.out hb1)
     clear hb1 CL
     go_wp2
     go_ret
     rw [HR.out]
     exact ⟨rfl,HB1.out⟩
    ·have HR:Hid (ofL (d.drop (i+1)) (c.drop (i+1))=ofL d c):=by show _=_; rw [← HNN.out,if_neg (fun hh => hh.elim h1 h2)]
     go_wp2_with fail
     refine (CL.out _).mono ?_
     rintro e w1 ⟨rfl,hb1⟩
     have HB1:=Lib.hid (below_keep HB.out hb1)
     clear hb1 CL
     go_wp2
     exact ⟨⟨i+1,by omega,by go_num,HR,HB1.out⟩,by show d.length - _<d.length - _; simp [intOf]; omega⟩
  ·obtain rfl:i=d.length:=by omega
   have hn:=HN.out
   rw [List.drop_length,ofL] at hn
   ·have HNN:=Lib.hid hn
    have HB:=Lib.hid hb
    clear hb hn HN
    go_wp2
    go_ret
    rw [← HNN.out]
    exact ⟨rfl,HB.out⟩
   ·intro _ _ _ _ h; cases h
theorem ofD_any (d:List DimT) (c:List Int) (v u:Value) (w:World) (hd:Dims w v d) (hc:Ints w u c) :
  Calls Tryz.prog 50 #[v,u] w (RetV' (.bool (ofB d c)) w):=by
 unfold ofB
 by_cases h:c.length=d.length
 ·rw [decide_eq_true h,Bool.true_and]
  exact of_core d c v u w hd hc h
 ·rw [decide_eq_false h,Bool.false_and]
  exact of_short d c v u w hd hc h
theorem compareInt_cases (x y:Int):(x<y∧Lib.compareInt x y = -1) ∨ (x=y∧Lib.compareInt x y=0) ∨ (y<x∧Lib.compareInt x y=1):=by
 unfold Lib.compareInt
 by_cases h1:x<y
 ·simp [h1]
 ·by_cases h2:y<x
  ·simp [h1,h2]
  ·have:x=y:=by omega
   subst this
   simp
theorem cmpI_drop {a b:List Int} {i:Nat} {x y:Int} (hx:a[i]? = some x) (hy:b[i]? = some y):cmpI (a.drop i) (b.drop i)=if x<y then -1 else if y<x then 1 else cmpI (a.drop (i+1)) (b.drop (i+1)):=by
 rw [drop_cons hx,drop_cons hy,cmpI]
set_option maxHeartbeats 1600000 in
theorem scompare_any (a b:List Int) (v u:Value) (w:World) (ha:Ints w v a) (hb:Ints w u b) :
  Calls Tryz.prog 110 #[v,u] w fun e w' => e=.returned (.int .i64 (cmpI a b))∧w=w':=by
 have HA:=Lib.hid ha
 have HB:=Lib.hid hb
 have hla:=ha.len
 have hlb:=hb.len
 obtain ⟨p,cap,rfl,c1,c2⟩:=ha.shape
 obtain ⟨p',cap',rfl,c1',c2'⟩:=hb.shape
 clear ha hb
 go_enter Tryz.func110,Tryz.ntmps110
 go_wp2
 go_loop [11] (fun iv => ∃ i:Nat,i≤a.length∧iv=.int .i64 (i:Nat)∧Hid (cmpI (a.drop i) (b.drop i)=cmpI a b)∧i≤b.length) (fun iv => a.length - (intOf iv).toNat)
 case atStart => exact ⟨0,Nat.zero_le _,rfl,rfl,Nat.zero_le _⟩
 case round =>
  obtain ⟨i,hi,rfl,HN,hib⟩:=hrel
  by_cases hlt:i<a.length
  ·obtain ⟨g,o,x,ea,hx,hr⟩:=HA.out.at i hlt
   subst ea
   rw [Nat.mul_one] at hr
   unfold IntR at hr
   by_cases hlt2:i<b.length
   ·obtain ⟨g',o',y,ea',hy,hr'⟩:=HB.out.at i hlt2
    subst ea'
    rw [Nat.mul_one] at hr'
    unfold IntR at hr'
    have hn:=HN.out
    rw [cmpI_drop hx hy] at hn
    have HNN:=Lib.hid hn
    have CC:=fun w1 => Tryz.cmp_Compare_int x y w1
    rcases compareInt_cases x y with ⟨h1,h2⟩ | ⟨h1,h2⟩ | ⟨h1,h2⟩
    ·have HR:Hid (cmpI a b = -1):=by show _=_; rw [← HNN.out,if_pos h1]
     rw [h2] at CC
     have CC:=Lib.hid CC
     rename_i CC'
     clear CC' hx hy hn h2
     go_wp2_with fail
     refine (CC.out _).mono ?_
     rintro e w1 ⟨rfl,rfl⟩
     go_wp2
     go_ret
     rw [HR.out]
     exact ⟨rfl,rfl⟩
    ·have HR:Hid (cmpI (a.drop (i+1)) (b.drop (i+1))=cmpI a b):=by show _=_; rw [← HNN.out,if_neg (by omega),if_neg (by omega)]
     rw [h2] at CC
     have CC:=Lib.hid CC
     rename_i CC'
     clear CC' hx hy hn h2
     subst h1
     go_wp2_with fail
     refine (CC.out _).mono ?_
     rintro e w1 ⟨rfl,rfl⟩
     go_wp2
     exact ⟨⟨i+1,by omega,by go_num,HR,by omega⟩,by show a.length - _<a.length - _; simp [intOf]; omega⟩
    ·have HR:Hid (cmpI a b=1):=by show _=_; rw [← HNN.out,if_neg (by omega),if_pos h1]
     rw [h2] at CC
     have CC:=Lib.hid CC
     rename_i CC'
     clear CC' hx hy hn h2
     go_wp2_with fail
     refine (CC.out _).mono ?_
     rintro e w1 ⟨rfl,rfl⟩
     go_wp2
     go_ret
     rw [HR.out]
     exact ⟨rfl,rfl⟩
   ·obtain rfl:i=b.length:=by omega
    have hn:=HN.out
    rw [List.drop_length,drop_cons hx,cmpI] at hn
    have HNN:=Lib.hid hn
    clear hx hn HN
    go_wp2
    go_ret
    rw [← HNN.out]
    exact ⟨rfl,rfl⟩
  ·obtain rfl:i=a.length:=by omega
   have hn:=HN.out
   rw [List.drop_length] at hn
   by_cases hlt2:a.length<b.length
   ·obtain ⟨y,hy⟩:∃ y,b[a.length]? = some y:=⟨_,List.getElem?_eq_getElem hlt2⟩
    rw [drop_cons hy,cmpI] at hn
    have HNN:=Lib.hid hn
    clear hn HN hy
    go_wp2
    go_ret
    rw [← HNN.out]
    exact ⟨rfl,rfl⟩
   ·have e:a.length=b.length:=by omega
    rw [e,List.drop_length,cmpI] at hn
    have HNN:=Lib.hid hn
    clear hn HN e
    go_wp2
    go_ret
    rw [← HNN.out]
    exact ⟨rfl,rfl⟩
theorem compare_any (a b:List Int) (v u:Value) (w:World) (ha:Ints w v a) (hb:Ints w u b) :
  Calls Tryz.prog 70 #[v,u] w fun e w' => e=.returned (.int .i64 (cmpI a b))∧w=w':=by
 have C:=Lib.hid (scompare_any a b v u w ha hb)
 obtain ⟨p,cap,rfl,c1,c2⟩:=ha.shape
 obtain ⟨p',cap',rfl,c1',c2'⟩:=hb.shape
 clear ha hb
 go_enter Tryz.func70,Tryz.ntmps70
 go_wp2_with fail
 refine C.out.mono ?_
 rintro e w1 ⟨rfl,rfl⟩
 go_wp2
 go_ret
 exact ⟨rfl,rfl⟩
end Go.Proofs.YtdbnebhehiiakaaGreatDoor
