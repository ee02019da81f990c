/- Lemmas and contracts, each under its own condition: space: ordered, Layout: contracts; a list of integers that a call fills. space.Layout: the contract. A list of integers that a call makes and fills; what valid dimensions, layouts and coordinates are. -/
import Derived.IntWalk
import Derived.Test.YtdbnebhehiiakaaGreatDoorS1
import Derived.Test.YtdbnebhehiiakaaGreatDoorS4
namespace Go.Proofs.YtdbnebhehiiakaaGreatDoor
open Go.RowKit
theorem ordered_core (vs vo:Value) (o t f c:Int) (w:World) (h1:∃ a n k,vs=.slice a n k) (h2:∃ a n k,vo=.slice a n k) :
  Calls Tryz.prog 57 #[.agg #[vs,vo,.int .i64 o,.int .i64 t,.int .i64 f,.int .i64 c]] w (RetV' (.bool (orderedB o t)) w):=by
 obtain ⟨a1,n1,k1,rfl⟩:=h1
 obtain ⟨a2,n2,k2,rfl⟩:=h2
 have hcase:(o=1 ∨ o=2) ∨ o=3 ∨ (o ≠ 1∧o ≠ 2∧o ≠ 3):=by omega
 rcases hcase with h | h | h
 ·have e:orderedB o t=decide (t=0):=by unfold orderedB; rw [if_pos h]
  rw [e]
  clear e
  obtain ⟨b,hb⟩:∃ b,decide (t=0)=b:=⟨_,rfl⟩
  have hb':(t == 0)=b:=by rw [← hb,Bool.eq_iff_iff]; simp
  rw [hb]
  clear hb
  rcases h with rfl | rfl
  all_goals
   go_enter Tryz.func57,Tryz.ntmps57
   go_wp2
   go_ret
   exact ⟨rfl,below_alloc _ _⟩
 ·subst h
  have e:orderedB 3 t=(decide (1≤t) && decide (t≤64)):=rfl
  rw [e]
  clear e
  by_cases h1:1≤t
  ·by_cases h2:t≤64
   ·rw [decide_eq_true h1,decide_eq_true h2]
    go_enter Tryz.func57,Tryz.ntmps57
    go_wp2
    go_ret
    exact ⟨ret_bool (by simp),below_alloc _ _⟩
   ·rw [decide_eq_true h1,decide_eq_false h2]
    go_enter Tryz.func57,Tryz.ntmps57
    go_wp2
    go_ret
    exact ⟨ret_bool (by simp),below_alloc _ _⟩
  ·rw [decide_eq_false h1]
   go_enter Tryz.func57,Tryz.ntmps57
   go_wp2
   go_ret
   exact ⟨ret_bool (by simp),below_alloc _ _⟩
 ·obtain ⟨o1,o2,o3⟩:=h
  have e:orderedB o t=false:=by unfold orderedB; rw [if_neg (by omega),if_neg o3]
  rw [e]
  have b1:(o == 1)=false:=by rw [beq_eq_false_iff_ne]; exact o1
  have b2:(o == 2)=false:=by rw [beq_eq_false_iff_ne]; exact o2
  have b3:(o == 3)=false:=by rw [beq_eq_false_iff_ne]; exact o3
  clear e o1 o2 o3
  go_enter Tryz.func57,Tryz.ntmps57
  go_wp2
  go_ret
  exact ⟨rfl,below_alloc _ _⟩
structure LayR (w:World) (vs vo:Value) (l:LayT):Prop where
 sides:Ints w vs l.sides
 over:Ints w vo l.over
abbrev layV (vs vo:Value) (l:LayT):Value:=.agg #[vs,vo,.int .i64 l.order,.int .i64 l.tile,.int .i64 l.form,.int .i64 l.codec]
theorem LayR.later {w w':World} {vs vo:Value} {l:LayT} (h:LayR w vs vo l) (hb:Below w.heap.size w w'):LayR w' vs vo l:=⟨h.sides.later IntR.lasts hb,h.over.later IntR.lasts hb⟩
theorem ordered_any (vs vo:Value) (l:LayT) (w:World) (h:LayR w vs vo l):Calls Tryz.prog 57 #[layV vs vo l] w (RetV' (.bool (orderedB l.order l.tile)) w):=by
 obtain ⟨a,c,e,-⟩:=h.sides.shape
 obtain ⟨a',c',e',-⟩:=h.over.shape
 exact ordered_core vs vo _ _ _ _ w ⟨_,_,_,e⟩ ⟨_,_,_,e'⟩
theorem sides_drop {s o:List Int} {i:Nat} {x y n:Int} (hx:s[i]? = some x) (hy:o[i]? = some y):sidesL n (s.drop i) (o.drop i)=if x<1 ∨ 64<x ∨ y<0 ∨ x<y ∨ 16<y then none else sidesL (n * (x+2 * y)) (s.drop (i+1)) (o.drop (i+1)):=by
 rw [drop_cons hx,drop_cons hy,sidesL]
def B96 (i:Nat):Int:=96 ^ i
theorem B96_step {n t:Int} {i:Nat} (h0:0≤n) (h1:n≤B96 i) (t0:0≤t) (t1:t≤96):0≤n * t∧n * t≤B96 (i+1):=by
 refine ⟨Int.mul_nonneg h0 t0,?_⟩
 unfold B96 at *
 rw [Int.pow_succ]
 exact Int.mul_le_mul h1 t1 t0 (Int.le_trans h0 h1)
theorem B96_top {i:Nat} (h:i≤4):B96 i≤84934656:=by
 have:i=0 ∨ i=1 ∨ i=2 ∨ i=3 ∨ i=4:=by omega
 unfold B96
 rcases this with rfl | rfl | rfl | rfl | rfl <;> decide
theorem layout_bad (d:List DimT) (l:LayT) (vd vs vo:Value) (w:World) (hd:Dims w vd d) (hl:LayR w vs vo l) (hs:StrD d) (h:dimsE d ≠ 0) :
  Calls Tryz.prog 18 #[vd,layV vs vo l] w (RetV' (.int .i64 (dimsE d)) w):=by
 have C:=Lib.hid (fun w1 (hb:Below w.heap.size w w1) => shape_any d vd w1 (hd.later DimR.lasts hb) hs)
 obtain ⟨p1,cap1,rfl,c1,c1'⟩:=hd.shape
 obtain ⟨p2,cap2,rfl,c2,c2'⟩:=hl.sides.shape
 obtain ⟨p3,cap3,rfl,c3,c3'⟩:=hl.over.shape
 obtain ⟨ss,oo,o,t,f,c⟩:=l
 have hne:(dimsE d != 0)=true:=by rw [bne_iff_ne]; exact h
 generalize dimsE d=r at *
 clear hd hl hs h
 go_enter Tryz.func18,Tryz.ntmps18
 go_wp2_with fail
 refine (C.out _ (below_alloc _ _)).mono ?_
 rintro e w1 ⟨rfl,hb⟩
 have HB:=Lib.hid (below_keep (below_alloc _ _) hb)
 clear hb C
 go_wp2
 go_ret
 exact ⟨rfl,HB.out⟩
def LayB (w:World) (g:Nat) (vs vo:Value) (l:LayT):Prop :=
 w.cell? ⟨g,0,none⟩=some vs∧w.cell? ⟨g,1,none⟩=some vo∧w.cell? ⟨g,2,none⟩=some (.int .i64 l.order)∧w.cell? ⟨g,3,none⟩=some (.int .i64 l.tile)∧w.cell? ⟨g,4,none⟩=some (.int .i64 l.form)∧w.cell? ⟨g,5,none⟩=some (.int .i64 l.codec)
theorem LayB.made (w:World) (vs vo:Value) (l:LayT) (T:TypeId) (w':World) (hb:Below (w.heap.size+1) (w.alloc (.cells #[vs,vo,.int .i64 l.order,.int .i64 l.tile,.int .i64 l.form,.int .i64 l.codec] T)) w'):LayB w' w.heap.size vs vo l:=by
 have hc:∀ j,w'.cell? ⟨w.heap.size,j,none⟩=(w.alloc (.cells #[vs,vo,.int .i64 l.order,.int .i64 l.tile,.int .i64 l.form,.int .i64 l.codec] T)).cell? ⟨w.heap.size,j,none⟩:=fun j => hb.cell (p:=⟨w.heap.size,j,none⟩) (Nat.lt_succ_self _)
 refine ⟨?_,?_,?_,?_,?_,?_⟩ <;> (rw [hc,World.cell?_alloc_at _ _ _ _ rfl]; rfl)
theorem layout_shape (d:List DimT) (l:LayT) (vd vs vo:Value) (w:World) (hd:Dims w vd d) (hl:LayR w vs vo l) (hs:StrD d) (h:dimsE d=0) (h2:l.sides.length ≠ d.length ∨ l.over.length ≠ d.length) :
  Calls Tryz.prog 18 #[vd,layV vs vo l] w (RetV' (.int .i64 13) w):=by
 have C:=Lib.hid (fun w1 (hb:Below w.heap.size w w1) => shape_any d vd w1 (hd.later DimR.lasts hb) hs)
 rw [h] at C
 obtain ⟨p1,cap1,rfl,c1,c1'⟩:=hd.shape
 obtain ⟨p2,cap2,rfl,c2,c2'⟩:=hl.sides.shape
 obtain ⟨p3,cap3,rfl,c3,c3'⟩:=hl.over.shape
 have h3:¬ ((l.sides.length:Int)=d.length) ∨ (l.sides.length=d.length∧¬ ((l.over.length:Int)=d.length)):=by omega
 have HBX:=Lib.hid (LayB.made w (.slice p2 l.sides.length cap2) (.slice p3 l.over.length cap3) l 38)
 obtain ⟨ss,oo,o,t,f,c⟩:=l
 simp only at h3 c2 c3 HBX ⊢
 clear hd hl hs h h2
 rcases h3 with h3 | ⟨h3,h4⟩
 ·go_enter Tryz.func18,Tryz.ntmps18
  go_wp2_with fail
  refine (C.out _ (below_alloc _ _)).mono ?_
  rintro e w1 ⟨rfl,hb⟩
  have HB:=Lib.hid (below_keep (below_alloc _ _) hb)
  obtain ⟨b0,b1,-⟩:=HBX.out w1 (by simpa using hb)
  clear hb C
  go_wp2
  go_ret
  exact ⟨rfl,HB.out⟩
 ·simp only [h3] at c2 HBX ⊢
  clear h3
  go_enter Tryz.func18,Tryz.ntmps18
  go_wp2_with fail
  refine (C.out _ (below_alloc _ _)).mono ?_
  rintro e w1 ⟨rfl,hb⟩
  have HB:=Lib.hid (below_keep (below_alloc _ _) hb)
  obtain ⟨b0,b1,-⟩:=HBX.out w1 (by simpa using hb)
  clear hb C
  go_wp2
  go_ret
  exact ⟨rfl,HB.out⟩
def layF (l:LayT):Option Int→Int
 | none => 3
 | some n => if 4096<n then 9 else if orderedB l.order l.tile=false ∨ l.form<1 ∨ 3<l.form ∨ l.codec<1 ∨ 3<l.codec then 2 else 0
set_option maxHeartbeats 6400000 in
set_option maxRecDepth 100000 in
theorem layout_core (d:List DimT) (l:LayT) (vd vs vo:Value) (w:World) (hd:Dims w vd d) (hl:LayR w vs vo l) (hs:StrD d) (h:dimsE d=0) (h2:l.sides.length=d.length) (h3:l.over.length=d.length) (h4:d.length≤4) :
  Calls Tryz.prog 18 #[vd,layV vs vo l] w (RetV' (.int .i64 (layF l (sidesL 1 l.sides l.over))) w):=by
 have C:=Lib.hid (fun w1 (hb:Below w.heap.size w w1) => shape_any d vd w1 (hd.later DimR.lasts hb) hs)
 rw [h] at C
 have CO:=Lib.hid (fun w1 (hb:Below w.heap.size w w1) => ordered_any vs vo l w1 (hl.later hb))
 have HLR:=Lib.hid hl
 have HL2:=Lib.hid h2
 have HL3:=Lib.hid h3
 obtain ⟨p1,cap1,rfl,c1,c1'⟩:=hd.shape
 obtain ⟨p2,cap2,rfl,c2,c2'⟩:=hl.sides.shape
 obtain ⟨p3,cap3,rfl,c3,c3'⟩:=hl.over.shape
 have HBX:=Lib.hid (LayB.made w (.slice p2 l.sides.length cap2) (.slice p3 l.over.length cap3) l 38)
 obtain ⟨R,hR⟩:∃ R:Int,R=layF l (sidesL 1 l.sides l.over):=⟨_,rfl⟩
 rw [← hR]
 have HR:=Lib.hid hR
 simp only [h2,h3] at c2 c3 HBX CO HLR ⊢
 obtain ⟨ss,oo,o,t,f,c⟩:=l
 simp only at HBX CO HLR HL2 HL3 ⊢
 clear hd hl hs h h2 h3 hR
 go_enter Tryz.func18,Tryz.ntmps18
 go_wp2_with fail
 refine (C.out _ (below_alloc _ _)).mono ?_
 rintro e w1 ⟨rfl,hb⟩
 have HB:=Lib.hid (below_keep (below_alloc _ _) hb)
 have HBX1:=Lib.hid (fun w' (h':Below w1.heap.size w1 w') => HBX.out w' (by simpa using below_keep hb h'))
 have HS1:Hid (w.heap.size<w1.heap.size):=by show _<_; have:=hb.size; simp at this; omega
 obtain ⟨b0,b1,-⟩:=HBX1.out w1 (Below.refl _ _)
 clear hb C HBX
 go_wp2
 clear b0 b1
 go_loop [6,31] (fun nv iv => ∃ (i:Nat) (n:Int),i≤d.length∧iv=.int .i64 (i:Nat)∧nv=.int .i64 n∧Hid (sidesL n (ss.drop i) (oo.drop i)=sidesL 1 ss oo)∧Hid (0≤n∧n≤B96 i)) (fun _ iv => d.length - (intOf iv).toNat)
 case atStart => exact ⟨0,1,Nat.zero_le _,rfl,rfl,rfl,⟨by omega,by unfold B96; decide⟩⟩
 case round =>
  obtain ⟨i,n,hi,rfl,rfl,HN,HNB⟩:=hrel
  obtain ⟨b0,b1,b2,b3,b4,b5⟩:=HBX1.out w1 (Below.refl _ _)
  simp only at b2 b3 b4 b5
  have HSW:=Lib.hid (HLR.out.sides.later IntR.lasts HB.out)
  have HOW:=Lib.hid (HLR.out.over.later IntR.lasts HB.out)
  by_cases hlt:i<d.length
  ·obtain ⟨g,o',x,ea,hx,hr⟩:=HSW.out.at i (by simp only; rw [HL2.out]; exact hlt)
   obtain ⟨g',o'',y,ea',hy,hr'⟩:=HOW.out.at i (by simp only; rw [HL3.out]; exact hlt)
   subst ea ea'
   rw [Nat.mul_one] at hr hr'
   unfold IntR at hr hr'
   have hn:=HN.out
   simp only at hx hy
   rw [sides_drop hx hy] at hn
   by_cases hbad:x<1 ∨ 64<x ∨ y<0 ∨ x<y ∨ 16<y
   ·rw [if_pos hbad] at hn
    have HRR:Hid (R=3):=by show _=_; rw [HR.out,← hn]; rfl
    have hcase:x<1 ∨ (¬ x<1∧64<x) ∨ (¬ x<1∧¬ 64<x∧y<0) ∨ (¬ x<1∧¬ 64<x∧¬ y<0∧min x 16<y):=by omega
    clear hbad hn hx hy
    rcases hcase with q | ⟨q,q'⟩ | ⟨q,q',q''⟩ | ⟨q,q',q'',q3⟩
    all_goals
     go_wp2
     go_ret
     rw [HRR.out]
     exact ⟨rfl,HB.out⟩
   ·rw [if_neg hbad] at hn
    have q1:¬ x<1:=by omega
    have q2:¬ 64<x:=by omega
    have q3:¬ y<0:=by omega
    have q4:¬ min x 16<y:=by omega
    have hst:=B96_step HNB.out.1 HNB.out.2 (t:=x+2 * y) (by omega) (by omega)
    have HST:=Lib.hid hst
    have htop:=B96_top (i:=i+1) (by omega)
    have m0:0≤n * (x+2 * y):=hst.1
    have m1:n * (x+2 * y)≤84934656:=Int.le_trans hst.2 htop
    have y0:0≤y:=by omega
    have y1:y≤16:=by omega
    have x0:1≤x:=by omega
    have x1:x≤64:=by omega
    have HNN:=Lib.hid hn
    clear hbad hn hx hy hst htop
    go_wp2
    exact ⟨⟨i+1,_,by omega,by go_num,rfl,HNN.out,HST.out⟩,by show d.length - _<d.length - _; simp [intOf]; omega⟩
  ·obtain rfl:i=d.length:=by omega
   have hn:=HN.out
   rw [← HL2.out] at hn
   have h0:sidesL n (List.drop ss.length ss) (List.drop ss.length oo)=some n:=by
    rw [List.drop_length,show ss.length=oo.length from by have:=HL2.out; have:=HL3.out; simp only at *; omega,List.drop_length]; rfl
   have hn:=HN.out
   have e1:ss.length=d.length:=HL2.out
   rw [e1] at h0
   rw [h0] at hn
   have HRF:Hid (R=if 4096<n then 9 else if orderedB o t=false ∨ f<1 ∨ 3<f ∨ c<1 ∨ 3<c then 2 else 0):=by show _=_; rw [HR.out,← hn]; rfl
   have HOR:=Lib.hid (CO.out w1 HB.out)
   clear h0 hn e1 HN
   by_cases hm:4096<n
   ·have HRR:Hid (R=9):=by show _=_; rw [HRF.out,if_pos hm]
    go_wp2
    go_ret
    rw [HRR.out]
    exact ⟨rfl,HB.out⟩
   ·generalize orderedB o t=bo at HOR HRF
    have HRR:Hid (R=if bo=false ∨ f<1 ∨ 3<f ∨ c<1 ∨ 3<c then 2 else 0):=by show _=_; rw [HRF.out,if_neg hm]
    clear HRF
    go_wp2_with fail
    refine HOR.out.mono ?_
    rintro e w2 ⟨rfl,hb2⟩
    have HB2:=Lib.hid (below_keep HB.out hb2)
    obtain ⟨-,-,-,-,b4,b5⟩:=HBX1.out w2 hb2
    simp only at b4 b5
    clear hb2 HOR
    cases bo with
    | false =>
     have HR2:Hid (R=2):=by show _=_; rw [HRR.out,if_pos (.inl rfl)]
     go_wp2
     go_ret
     rw [HR2.out]
     exact ⟨rfl,HB2.out⟩
    | true =>
     by_cases hbad:f<1 ∨ 3<f ∨ c<1 ∨ 3<c
     ·have HR2:Hid (R=2):=by show _=_; rw [HRR.out,if_pos (.inr hbad)]
      have hcase:f<1 ∨ (¬ f<1∧3<f) ∨ (¬ f<1∧¬ 3<f∧c<1) ∨ (¬ f<1∧¬ 3<f∧¬ c<1∧3<c):=by omega
      clear hbad
      rcases hcase with q | ⟨q,q'⟩ | ⟨q,q',q''⟩ | ⟨q,q',q'',q3⟩
      all_goals
       go_wp2
       go_ret
       rw [HR2.out]
       exact ⟨rfl,HB2.out⟩
     ·have HR2:Hid (R=0):=by show _=_; rw [HRR.out,if_neg (by simp; omega)]
      have q1:¬ f<1:=by omega
      have q2:¬ 3<f:=by omega
      have q3:¬ c<1:=by omega
      have q4:¬ 3<c:=by omega
      clear hbad
      go_wp2
      go_ret
      rw [HR2.out]
      exact ⟨rfl,HB2.out⟩
theorem layout_any (d:List DimT) (l:LayT) (vd vs vo:Value) (w:World) (hd:Dims w vd d) (hl:LayR w vs vo l) (hs:StrD d) :
  Calls Tryz.prog 18 #[vd,layV vs vo l] w (RetV' (.int .i64 (layoutE d l)) w):=by
 have e:layoutE d l=if dimsE d ≠ 0 then dimsE d else if l.sides.length ≠ d.length ∨ l.over.length ≠ d.length then 13 else layF l (sidesL 1 l.sides l.over):=by
  unfold layoutE layF
  rfl
 rw [e]
 by_cases h:dimsE d=0
 ·rw [if_neg (by simp [h])]
  by_cases h2:l.sides.length ≠ d.length ∨ l.over.length ≠ d.length
  ·rw [if_pos h2]
   exact layout_shape d l vd vs vo w hd hl hs h h2
  ·rw [if_neg h2]
   have hdl:d.length≤4:=by
    unfold dimsE at h
    split at h
    ·cases h
    ·omega
   exact layout_core d l vd vs vo w hd hl hs h (by omega) (by omega) hdl
 ·rw [if_pos h]
  exact layout_bad d l vd vs vo w hd hl hs h
structure RowZ (w:World) (g:Nat) (l:List Int):Prop where
 cell:∀ i x,l[i]? = some x→w.cell? ⟨g,i,none⟩=some (.int .i64 x)
 free:∀ i,w.frozen? ⟨g,i,none⟩=false
 tag:TagB w g 3
theorem madeZ_get (n i:Nat) (hi:i<n):(madeCells #[.int .i64 0] n)[i]? = some (.int .i64 0):=by
 simp [madeCells,hi,Nat.mod_one]
theorem RowZ.made (w:World) (n:Nat):RowZ (w.alloc (.cells (madeCells #[.int .i64 0] n) 3)) w.heap.size (List.replicate n 0):=by
 refine ⟨fun i x hx => ?_,fun i => World.frozen?_alloc_at _ _ _ _ rfl,⟨_,(0,0),World.alloc_heap_new w _⟩⟩
 rw [List.getElem?_replicate] at hx
 split at hx
 ·cases hx
  rw [World.cell?_alloc_at _ _ _ _ rfl]
  simpa using madeZ_get n i (by assumption)
 ·cases hx
theorem TagB.setCell {w:World} {g:Nat} {T:TypeId} (h:TagB w g T) (a:Addr) (v:Value):TagB (w.setCell a v) g T:=by
 by_cases e:g=a.block
 ·subst e
  obtain ⟨cs,fr,h⟩:=h
  have hlt:=(Array.getElem?_eq_some_iff.1 h).1
  have he:=(Array.getElem?_eq_some_iff.1 h).2
  refine ⟨if a.spot.isSome=true then cs else cs.setIfInBounds a.off v,fr,?_⟩
  show (w.heap.modify a.block _)[a.block]? = _
  rw [Array.getElem?_eq_getElem (by rw [Array.size_modify]; exact hlt),Array.getElem_modify_self,he]
 ·exact h.kept (Below.heap_setCell w a v g e)
theorem RowZ.set {w:World} {g:Nat} {l:List Int} (h:RowZ w g l) (i:Nat) (y:Int) (hi:i<l.length) {z:Value} (hz:z=.int .i64 y):RowZ (w.setCell ⟨g,i,none⟩ z) g (l.set i y):=by
 subst hz
 refine ⟨fun k x hx => ?_,fun k => by rw [World.frozen?_setCell]; exact h.free k,h.tag.setCell _ _⟩
 by_cases e:k=i
 ·subst e
  rw [List.getElem?_set_self hi] at hx
  cases hx
  exact World.cell?_setCell_same w ⟨g,k,none⟩ _ (h.cell k _ (List.getElem?_eq_getElem hi))
 ·rw [List.getElem?_set_ne (Ne.symm e)] at hx
  rw [World.cell?_setCell_other w ⟨g,i,none⟩ ⟨g,k,none⟩ _ (fun h' => e (by injection h' with _ h2; exact h2.symm))]
  exact h.cell k x hx
theorem RowZ.later {w w':World} {B g:Nat} {l:List Int} (h:RowZ w g l) (hb:Below B w w') (hg:g<B):RowZ w' g l :=
 ⟨fun i x hx => (hb.cell (p:=⟨g,i,none⟩) hg).trans (h.cell i x hx),fun i => (hb.frozen (p:=⟨g,i,none⟩) hg).trans (h.free i),h.tag.kept (hb.block g hg)⟩
theorem RowZ.drew {w:World} {g:Nat} {l:List Int} (h:RowZ w g l):RowZ w.drew g l:=⟨h.cell,h.free,h.tag⟩
theorem RowZ.kept {w w':World} {g:Nat} {l:List Int} (h:RowZ w g l) (hb:w'.heap[g]? = w.heap[g]?):RowZ w' g l :=
 ⟨fun i x hx => (World.cell?_of_block (a:=⟨g,i,none⟩) hb).trans (h.cell i x hx),fun i => (World.frozen?_of_block (a:=⟨g,i,none⟩) hb).trans (h.free i),h.tag.kept hb⟩
theorem RowZ.ints {w:World} {g n cap:Nat} {l:List Int} (h:RowZ w g l) (hn:l.length=n) (h1:n≤cap) (h2:cap≤9223372036854775807):IntsO w (.slice (some ⟨g,0,none⟩) n cap) l:=by
 subst hn
 refine ⟨⟨_,cap,rfl,h1,h2,fun _ => ⟨g,0,rfl,fun i x hx => ?_⟩⟩,fun b hb => ?_⟩
 ·unfold IntR
  rw [Nat.zero_add,Nat.mul_one]
  exact h.cell i x hx
 ·injection hb with hb
  subst hb
  exact h.tag
theorem infoZ:(Tryz.prog.info? 3).map (fun i => (i.zero,i.size,i.bytes))=some (some (.int .i64 0),1,8):=by kernel_rfl
theorem run_makeZ {t:TypeId} (ht:Tryz.prog.underlying t=some (.slice 3)) (K:Int) (n:Nat) (hK:K=n) (hn:n≤1000000000000) (w:World) :
  (Instr.makeSlice t (.int .i64 K) (.int .i64 K)).run Tryz.prog w=.ok (.slice (some ⟨w.heap.size,0,none⟩) n n) (w.alloc (.cells (madeCells #[.int .i64 0] n) 3)):=by
 obtain ⟨i0,hi,hz0,hz1,hz2⟩:=info_parts infoZ
 subst hK
 have h:=run_make (P:=Tryz.prog) w t 3 i0 (.int .i64 0) ht hi hz0 .i64 .i64 (n:Int) (n:Int) (by omega) (Int.le_refl _) (by rw [hz2]; omega) (by omega)
 simpa [hz1,Value.cells] using h
def fillL (l:List Int) (i:Nat):List Int:=l.take i ++ List.replicate (l.length - i) 0
theorem fillL_zero (l:List Int):fillL l 0=List.replicate l.length 0:=by simp [fillL]
theorem fillL_end (l:List Int):fillL l l.length=l:=by simp [fillL]
theorem fillL_length (l:List Int) (i:Nat) (h:i≤l.length):(fillL l i).length=l.length:=by simp [fillL]; omega
theorem fillL_set {l:List Int} {i:Nat} {y:Int} (h:l[i]? = some y):(fillL l i).set i y=fillL l (i+1):=by
 have hlt:=(List.getElem?_eq_some_iff.1 h).1
 unfold fillL
 rw [take_snoc' h,List.set_append_right _ _ (by rw [List.length_take]; omega),show i - (l.take i).length=0 from by simp; omega,show l.length - i=(l.length - (i+1))+1 from by omega,List.replicate_succ,List.set_cons_zero,List.append_assoc]
 rfl
structure GoodD (x:DimT):Prop where
 lo : -1073741824≤x.lo
 lo':x.lo≤1073741824
 hi:x.lo≤x.hi
 hi':x.hi≤1073741825
theorem GoodD.last {x:DimT} (h:GoodD x):x.lo≤x.last∧x.last≤1073741824∧x.last≤x.hi:=by
 have:=h.lo'
 have:=h.hi
 unfold DimT.last
 split <;> omega
theorem dimsL_good {met:List (List UInt8)} {d:List DimT} (h:dimsL met d=0):∀ x ∈ d,GoodD x:=by
 induction d generalizing met with
 | nil => intro x hx; cases hx
 | cons y r ih =>
  rw [dimsL] at h
  split at h
  ·cases h
  ·split at h
   ·cases h
   ·rename_i h2
    intro x hx
    rcases List.mem_cons.1 hx with rfl | hx
    ·have h3:boundsB x=true:=by simpa using h2
     unfold boundsB at h3
     simp only [Bool.and_eq_true,decide_eq_true_eq] at h3
     exact ⟨h3.1.1.1,h3.1.1.2,h3.1.2,h3.2⟩
    ·exact ih h x hx
theorem dims_good {d:List DimT} (h:dimsE d=0):1≤d.length∧d.length≤4∧∀ x ∈ d,GoodD x:=by
 unfold dimsE at h
 split at h
 ·cases h
 ·exact ⟨by omega,by omega,dimsL_good h⟩
structure GoodS (x y:Int):Prop where
 s1:1≤x
 s2:x≤64
 o1:0≤y
 o2:y≤16
 o3:y≤x
theorem sides_good {s o:List Int} {n m:Int} (h:sidesL n s o=some m) {i:Nat} {x y:Int} (hx:s[i]? = some x) (hy:o[i]? = some y):GoodS x y:=by
 induction s generalizing o n i with
 | nil => simp at hx
 | cons a r ih =>
  cases o with
  | nil => simp at hy
  | cons b q =>
   rw [sidesL] at h
   split at h
   ·cases h
   ·rename_i h2
    cases i with
    | zero =>
     simp only [List.getElem?_cons_zero,Option.some.injEq] at hx hy
     subst hx hy
     exact ⟨by omega,by omega,by omega,by omega,by omega⟩
    | succ k => exact ih h hx hy
theorem ofL_good {d:List DimT} {c:List Int} (h:ofL d c=true) {i:Nat} {x:DimT} {y:Int} (hx:d[i]? = some x) (hy:c[i]? = some y):x.lo≤y∧y≤x.last:=by
 induction d generalizing c i with
 | nil => simp at hx
 | cons a r ih =>
  cases c with
  | nil => simp at hy
  | cons b q =>
   rw [ofL] at h
   split at h
   ·cases h
   ·rename_i h2
    cases i with
    | zero =>
     simp only [List.getElem?_cons_zero,Option.some.injEq] at hx hy
     subst hx hy
     omega
    | succ k => exact ih h hx hy
structure GoodL (d:List DimT) (l:LayT):Prop where
 dims:dimsE d=0
 sides:l.sides.length=d.length
 over:l.over.length=d.length
 good:∀ (i:Nat) (x y:Int),l.sides[i]? = some x→l.over[i]? = some y→GoodS x y
theorem layout_good {d:List DimT} {l:LayT} (h:layoutE d l=0):GoodL d l:=by
 unfold layoutE at h
 split at h
 ·rename_i h2; exact absurd h h2
 ·rename_i h2
  split at h
  ·cases h
  ·rename_i h3
   cases hs:sidesL 1 l.sides l.over with
   | none => rw [hs] at h; cases h
   | some n => exact ⟨by simpa using h2,by omega,by omega,fun i x y hx hy => sides_good hs hx hy⟩
theorem chunkL_get {d:List DimT} {s c:List Int} {i:Nat} {x:DimT} {y z:Int} (hx:d[i]? = some x) (hy:s[i]? = some y) (hz:c[i]? = some z):(chunkL d s c)[i]? = some ((z - x.lo) / y):=by
 induction d generalizing s c i with
 | nil => simp at hx
 | cons a r ih =>
  cases s with
  | nil => simp at hy
  | cons b q =>
   cases c with
   | nil => simp at hz
   | cons e t =>
    cases i with
    | zero =>
     simp only [List.getElem?_cons_zero,Option.some.injEq] at hx hy hz
     subst hx hy hz
     rfl
    | succ k => exact ih hx hy hz
theorem chunkL_length {d:List DimT} {s c:List Int} (h1:s.length=d.length) (h2:c.length=d.length):(chunkL d s c).length=d.length:=by
 induction d generalizing s c with
 | nil => cases s <;> cases c <;> rfl
 | cons a r ih =>
  cases s with
  | nil => simp at h1
  | cons b q =>
   cases c with
   | nil => simp at h2
   | cons e t => simp only [chunkL,List.length_cons] at *; rw [ih (by omega) (by omega)]
end Go.Proofs.YtdbnebhehiiakaaGreatDoor
