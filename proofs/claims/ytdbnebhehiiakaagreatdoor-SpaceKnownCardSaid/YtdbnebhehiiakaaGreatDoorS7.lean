/- Lemmas and contracts, each under its own condition: The coordinates of a box one behind the other. Sorting by keys, in plain words: insertion keeps the elements and sorts them; a sorted list is unique where keys tell elements apart. slices.SortStableFunc at lists of integers: insertion. slices.SortStableFunc at lists of integers: of less than 20 elements. -/
import Derived.Deep.RegionHeld3
import Derived.IntWalk
import Derived.Test.YtdbnebhehiiakaaGreatDoorS1
import Derived.Test.YtdbnebhehiiakaaGreatDoorS6
namespace Go.Proofs.YtdbnebhehiiakaaGreatDoor
theorem get_flat {α:Type} (f:Nat→List α) (p:Nat) (hp:0<p) (hf:∀ k,(f k).length=p) (m j:Nat) :
  ((List.range m).flatMap f)[j]? = if j<m * p then (f (j / p))[j % p]? else none:=by
 induction m with
 | zero => simp
 | succ m ih =>
  have hl:((List.range m).flatMap f).length=m * p:=by
   clear ih
   induction m with
   | zero => simp
   | succ m ih => rw [List.range_succ,List.flatMap_append,List.length_append,ih]; simp [hf,Nat.succ_mul]
  rw [List.range_succ,List.flatMap_append,List.getElem?_append,hl]
  by_cases h:j<m * p
  ·rw [if_pos h,ih,if_pos h,if_pos (by rw [Nat.succ_mul]; omega)]
  ·rw [if_neg h]
   simp only [List.flatMap_cons,List.flatMap_nil,List.append_nil]
   by_cases h2:j<(m+1) * p
   ·rw [if_pos h2]
    have e:j / p=m:=by
     rw [Nat.div_eq_iff hp]
     rw [Nat.succ_mul] at h2
     omega
    have e2:j % p=j - m * p:=by
     rw [Nat.mod_eq_sub_div_mul,e]
    rw [e,e2]
   ·rw [if_neg h2]
    rw [List.getElem?_eq_none]
    rw [hf]
    rw [Nat.succ_mul] at h2
    omega
def ptsN:List Int→List Int→Nat
 | l :: ls,h :: hs => (h - l+1).toNat * ptsN ls hs
 | _,_ => 1
theorem ptsL_length (lo hi:List Int):(ptsL lo hi).length=ptsN lo hi:=by
 induction lo generalizing hi with
 | nil => rfl
 | cons l ls ih =>
  cases hi with
  | nil => rfl
  | cons h hs =>
   rw [ptsL,ptsN,List.length_flatMap]
   simp only [List.length_map,ih]
   generalize (h - l+1).toNat=m
   induction m with
   | zero => simp
   | succ m ih2 => rw [List.range_succ,List.map_append,List.sum_append,ih2]; simp [Nat.succ_mul]
def wideB:List Int→List Int→Prop
 | l :: ls,h :: hs => l≤h∧wideB ls hs
 | [],[] => True
 | _,_ => False
theorem ptsN_pos {lo hi:List Int} (h:wideB lo hi):0<ptsN lo hi:=by
 induction lo generalizing hi with
 | nil => cases hi <;> simp [ptsN]
 | cons l ls ih =>
  cases hi with
  | nil => exact absurd h (by simp [wideB])
  | cons k hs =>
   obtain ⟨h1,h2⟩:=h
   exact Nat.mul_pos (by omega) (ih h2)
theorem ptsL_get (l h:Int) (ls hs:List Int) (hw:wideB ls hs) (j:Nat) :
  (ptsL (l :: ls) (h :: hs))[j]? = if j<(h - l+1).toNat * ptsN ls hs then ((ptsL ls hs)[j % ptsN ls hs]?).map (fun y => (l+((j / ptsN ls hs:Nat):Int)) :: y) else none:=by
 rw [ptsL,get_flat _ (ptsN ls hs) (ptsN_pos hw) (fun k => by rw [List.length_map,ptsL_length])]
 simp
theorem ptsL_zero {lo hi:List Int} (h:wideB lo hi):(ptsL lo hi)[0]? = some lo:=by
 induction lo generalizing hi with
 | nil => cases hi <;> first | rfl | exact absurd h (by simp [wideB])
 | cons l ls ih =>
  cases hi with
  | nil => exact absurd h (by simp [wideB])
  | cons k hs =>
   obtain ⟨h1,h2⟩:=h
   rw [ptsL_get l k ls hs h2,if_pos (Nat.mul_pos (by omega) (ptsN_pos h2)),Nat.zero_mod,ih h2]
   simp
theorem ptsL_next {lo hi:List Int} (h:wideB lo hi) (j:Nat) (x:List Int) (hx:(ptsL lo hi)[j]? = some x):nextP lo hi x=(ptsL lo hi)[j+1]?:=by
 induction lo generalizing hi j x with
 | nil =>
  cases hi with
  | nil =>
   cases j with
   | zero => simp only [ptsL,List.getElem?_cons_zero,Option.some.injEq] at hx; subst hx; rfl
   | succ j => simp [ptsL] at hx
  | cons k hs => exact absurd h (by simp [wideB])
 | cons l ls ih =>
  cases hi with
  | nil => exact absurd h (by simp [wideB])
  | cons k hs =>
   obtain ⟨h1,h2⟩:=h
   have hp:=ptsN_pos h2
   rw [ptsL_get l k ls hs h2] at hx ⊢
   by_cases hj:j<(k - l+1).toNat * ptsN ls hs
   ·rw [if_pos hj] at hx
    obtain ⟨y,hy,rfl⟩:=Option.map_eq_some_iff.1 hx
    have hn:=ih h2 _ _ hy
    have hq:j % ptsN ls hs<ptsN ls hs:=Nat.mod_lt _ hp
    have hdiv:j / ptsN ls hs<(k - l+1).toNat:=(Nat.div_lt_iff_lt_mul hp).2 hj
    have hmod:ptsN ls hs * (j / ptsN ls hs)+j % ptsN ls hs=j:=Nat.div_add_mod j (ptsN ls hs)
    by_cases hl:j % ptsN ls hs+1<ptsN ls hs
    ·obtain ⟨z,hz⟩:∃ z,(ptsL ls hs)[j % ptsN ls hs+1]? = some z:=⟨_,List.getElem?_eq_getElem (by rw [ptsL_length]; exact hl)⟩
     rw [hz] at hn
     have e1:(j+1) / ptsN ls hs=j / ptsN ls hs:=by
      rw [Nat.div_eq_iff hp]
      rw [Nat.mul_comm] at hmod
      omega
     have e2:(j+1) % ptsN ls hs=j % ptsN ls hs+1:=by
      have:=Nat.div_add_mod (j+1) (ptsN ls hs)
      rw [e1] at this
      omega
     have e3:j+1<(k - l+1).toNat * ptsN ls hs:=by
      have h3:(j / ptsN ls hs+1) * ptsN ls hs≤(k - l+1).toNat * ptsN ls hs:=Nat.mul_le_mul_right _ hdiv
      rw [Nat.add_mul,Nat.one_mul,Nat.mul_comm] at h3
      omega
     rw [nextP,hn,if_pos e3,e1,e2,hz]
     rfl
    ·have hnone:(ptsL ls hs)[j % ptsN ls hs+1]? = none:=List.getElem?_eq_none (by rw [ptsL_length]; omega)
     rw [hnone] at hn
     have hj1:j+1=(j / ptsN ls hs+1) * ptsN ls hs:=by
      rw [Nat.add_mul,Nat.one_mul,Nat.mul_comm]
      omega
     rw [nextP,hn]
     by_cases hlast:j / ptsN ls hs+1=(k - l+1).toNat
     ·rw [if_pos (by omega),if_neg (by rw [hj1,hlast]; exact Nat.lt_irrefl _)]
     ·have h3:j / ptsN ls hs+1<(k - l+1).toNat:=by omega
      have e1:(j+1) / ptsN ls hs=j / ptsN ls hs+1:=by rw [hj1]; exact Nat.mul_div_cancel _ hp
      have e2:(j+1) % ptsN ls hs=0:=by rw [hj1]; exact Nat.mul_mod_left _ _
      rw [if_neg (by omega),if_pos (by rw [hj1]; exact Nat.mul_lt_mul_of_pos_right h3 hp),e1,e2,ptsL_zero h2]
      simp only [Option.map_some,Option.some.injEq,List.cons.injEq,and_true]
      omega
   ·rw [if_neg hj] at hx; cases hx
end Go.Proofs.YtdbnebhehiiakaaGreatDoor
namespace Go.Proofs.YtdbnebhehiiakaaGreatDoor
def leK {α:Type} (K:α→List Int) (x y:α):Prop:=cmpI (K y) (K x) ≠ -1
def ltK {α:Type} (K:α→List Int) (x y:α):Prop:=cmpI (K x) (K y) = -1
theorem ltK.le {α:Type} {K:α→List Int} {x y:α} (h:ltK K x y):leK K x y:=by
 unfold leK
 unfold ltK at h
 rw [cmpI_swap,h]
 decide
theorem leK.trans {α:Type} {K:α→List Int} {x y z:α} (h1:leK K x y) (h2:leK K y z):leK K x z:=by
 unfold leK at *
 intro h
 rcases cmpI_cases (K y) (K x) with e | e | e
 ·exact h1 e
 ·rw [cmpI_zero] at e
  rw [← e] at h
  exact h2 h
 ·have e':cmpI (K x) (K y) = -1:=by rw [cmpI_swap,e]
  exact h2 (cmpI_trans h e')
theorem leK.antisymm {α:Type} {K:α→List Int} {x y:α} (h1:leK K x y) (h2:leK K y x):K x=K y:=by
 unfold leK at *
 rcases cmpI_cases (K x) (K y) with e | e | e
 ·exact absurd e h2
 ·exact cmpI_zero.1 e
 ·exact absurd (by rw [cmpI_swap,e]) h1
theorem not_ltK {α:Type} {K:α→List Int} {x y:α} (h:¬ ltK K x y):leK K y x:=h
abbrev SortK {α:Type} (K:α→List Int) (l:List α):Prop:=l.Pairwise (leK K)
structure InsAt {α:Type} (K:α→List Int) (a j i:Nat) (zs:List α):Prop where
 ex:∃ P A x B R,zs=P ++ (A ++ x :: (B ++ R))∧P.length=a∧a+A.length=j∧j+B.length=i∧(A ++ B).Pairwise (leK K)∧∀ b ∈ B,ltK K x b
structure SegS {α:Type} (K:α→List Int) (a i:Nat) (zs:List α):Prop where
 ex:∃ P A R,zs=P ++ (A ++ R)∧P.length=a∧a+A.length=i∧A.Pairwise (leK K)
theorem SegS.start {α:Type} {K:α→List Int} {a:Nat} {zs:List α} (h:a≤zs.length):SegS K a a zs :=
 ⟨zs.take a,[],zs.drop a,by simp,by simp; omega,by simp,List.Pairwise.nil⟩
theorem SegS.one {α:Type} {K:α→List Int} {a:Nat} {zs:List α} (h:a<zs.length):SegS K a (a+1) zs :=
 ⟨zs.take a,[zs[a]],zs.drop (a+1),by rw [List.singleton_append,← List.drop_eq_getElem_cons h,List.take_append_drop],by simp; omega,rfl,List.pairwise_singleton _ _⟩
theorem SegS.whole {α:Type} {K:α→List Int} {zs:List α} (h:SegS K 0 zs.length zs):SortK K zs:=by
 obtain ⟨P,A,R,e,h1,h2,h3⟩:=h
 have e2:=congrArg List.length e
 simp only [List.length_append] at e2
 obtain rfl:P=[]:=List.length_eq_zero_iff.1 h1
 obtain rfl:R=[]:=List.length_eq_zero_iff.1 (by simp at e2; omega)
 rw [e]
 simpa using h3
theorem InsAt.start {α:Type} {K:α→List Int} {a i:Nat} {zs:List α} (h:SegS K a i zs) (hi:i<zs.length):InsAt K a i i zs:=by
 obtain ⟨P,A,R,rfl,h1,h2,h3⟩:=h
 cases R with
 | nil => simp at hi; omega
 | cons x R => exact ⟨P,A,x,[],R,rfl,h1,h2,rfl,by simpa using h3,fun b hb => by cases hb⟩
theorem get_mid {α:Type} {P Q:List α} {x:α} {k:Nat} (h:P.length=k):(P ++ x :: Q)[k]? = some x:=by
 rw [List.getElem?_append_right (by omega),h,Nat.sub_self]
 rfl
theorem InsAt.stop {α:Type} {K:α→List Int} {a j i:Nat} {zs:List α} (h:InsAt K a j i zs) (hs:j=a ∨ ∃ x y,zs[j]? = some x∧zs[j - 1]? = some y∧¬ ltK K x y):SegS K a (i+1) zs:=by
 obtain ⟨P,A,x,B,R,rfl,h1,h2,h3,h4,h5⟩:=h
 refine ⟨P,A ++ x :: B,R,by simp,h1,by simp; omega,?_⟩
 have hp:=List.pairwise_append.1 h4
 rw [List.pairwise_append,List.pairwise_cons]
 refine ⟨hp.1,⟨fun b hb => (h5 b hb).le,hp.2.1⟩,?_⟩
 rcases hs with hs | ⟨x',y,hx,hy,hn⟩
 ·have:A=[]:=List.length_eq_zero_iff.1 (by omega)
  subst this
  intro y hy; cases hy
 ·rcases List.eq_nil_or_concat A with rfl | ⟨A',z,rfl⟩
  ·intro y hy; cases hy
  ·simp only [List.concat_eq_append,List.length_append,List.length_cons,List.length_nil] at h2 h4 hp hx hy ⊢
   have e0:(P ++ (A' ++ [z] ++ x :: (B ++ R)))=(P ++ A') ++ z :: x :: (B ++ R):=by simp
   have hl0:(P ++ A').length=j - 1:=by simp; omega
   have e1:(P ++ (A' ++ [z] ++ x :: (B ++ R)))[j]? = some x:=by
    rw [e0,List.getElem?_append_right (by omega),show j - (P ++ A').length=1 from by omega]
    rfl
   have e2:(P ++ (A' ++ [z] ++ x :: (B ++ R)))[j - 1]? = some z:=by
    rw [e0]
    exact get_mid hl0
   rw [e1] at hx
   rw [e2] at hy
   have ex:=Option.some.inj hx
   have ey:=Option.some.inj hy
   subst ex ey
   intro u hu b hb
   have hzx:leK K z x:=not_ltK hn
   have huz:leK K u x:=by
    rcases List.mem_append.1 hu with hu | hu
    ·exact ((List.pairwise_append.1 hp.1).2.2 u hu z (by simp)).trans hzx
    ·simp at hu; subst hu; exact hzx
   rcases List.mem_cons.1 hb with rfl | hb
   ·exact huz
   ·exact huz.trans (h5 b hb).le
def swapL {α:Type} (zs:List α) (j:Nat) (x y:α):List α:=(zs.set j y).set (j - 1) x
theorem swapL_perm {α:Type} {zs:List α} {j:Nat} {x y:α} (hj:0<j) (hx:zs[j]? = some x) (hy:zs[j - 1]? = some y):(swapL zs j x y).Perm zs:=by
 obtain ⟨k,rfl⟩:∃ k,j=k+1:=⟨j - 1,by omega⟩
 rw [Nat.add_sub_cancel] at hy
 unfold swapL
 rw [Nat.add_sub_cancel]
 clear hj
 induction zs generalizing k with
 | nil => simp at hy
 | cons z zs ih =>
  cases k with
  | zero =>
   cases zs with
   | nil => simp at hx
   | cons u zs =>
    simp only [List.getElem?_cons_zero,Option.some.injEq,Nat.zero_add,List.getElem?_cons_succ] at hx hy
    subst hx hy
    simp only [Nat.zero_add,List.set_cons_succ,List.set_cons_zero]
    exact List.Perm.swap _ _ _
  | succ k =>
   simp only [List.getElem?_cons_succ] at hx hy
   simp only [List.set_cons_succ]
   exact List.Perm.cons _ (ih k hx hy)
theorem InsAt.down {α:Type} {K:α→List Int} {a j i:Nat} {zs:List α} {x y:α} (h:InsAt K a j i zs) (hj:a<j) (hx:zs[j]? = some x) (hy:zs[j - 1]? = some y) (hl:ltK K x y):InsAt K a (j - 1) i (swapL zs j x y):=by
 obtain ⟨P,A,x',B,R,rfl,h1,h2,h3,h4,h5⟩:=h
 rcases List.eq_nil_or_concat A with rfl | ⟨A',z,rfl⟩
 ·simp at h2; omega
 ·rw [List.concat_eq_append] at *
  simp only [List.length_append,List.length_cons,List.length_nil] at h2
  have e0:(P ++ (A' ++ [z] ++ x' :: (B ++ R)))=(P ++ A') ++ z :: x' :: (B ++ R):=by simp
  have hl0:(P ++ A').length=j - 1:=by simp; omega
  have e1:(P ++ (A' ++ [z] ++ x' :: (B ++ R)))[j]? = some x':=by
   rw [e0,List.getElem?_append_right (by omega),show j - (P ++ A').length=1 from by omega]
   rfl
  have e2:(P ++ (A' ++ [z] ++ x' :: (B ++ R)))[j - 1]? = some z:=by
   rw [e0]
   exact get_mid hl0
  rw [e1] at hx
  rw [e2] at hy
  have ex:=Option.some.inj hx
  have ey:=Option.some.inj hy
  subst ex ey
  refine ⟨P,A',x',z :: B,R,?_,h1,by omega,by simp; omega,by simpa using h4,fun b hb => ?_⟩
  ·unfold swapL
   rw [e0,List.set_append_right _ _ (by omega),show j - (P ++ A').length=1 from by omega,List.set_append_right _ _ (by simp; omega),show j - 1 - (P ++ A').length=0 from by omega]
   simp
  ·rcases List.mem_cons.1 hb with rfl | hb
   ·exact hl
   ·exact h5 b hb
theorem sortK_unique {α:Type} {K:α→List Int} {l l':List α} (hp:l.Perm l') (h1:SortK K l) (h2:SortK K l') (hi:∀ x ∈ l,∀ y ∈ l,K x=K y→x=y):l=l':=by
 induction l generalizing l' with
 | nil => exact (List.Perm.nil_eq hp).symm ▸ rfl
 | cons x l ih =>
  cases l' with
  | nil => exact absurd hp (by simp)
  | cons y l' =>
   have hy:y ∈ x :: l:=hp.mem_iff.2 (by simp)
   have hx:x ∈ y :: l':=hp.mem_iff.1 (by simp)
   have exy:x=y:=by
    have h1:=List.pairwise_cons.1 h1
    have h2:=List.pairwise_cons.1 h2
    rcases List.mem_cons.1 hy with e | hy
    ·exact e.symm
    ·rcases List.mem_cons.1 hx with e | hx
     ·exact e
     ·exact hi x (by simp) y (by simp [hy]) ((h1.1 y hy).antisymm (h2.1 x hx))
   subst exy
   have hp':=List.Perm.cons_inv hp
   rw [ih hp' (List.pairwise_cons.1 h1).2 (List.pairwise_cons.1 h2).2 (fun u hu v hv => hi u (by simp [hu]) v (by simp [hv]))]
end Go.Proofs.YtdbnebhehiiakaaGreatDoor
namespace Go.Proofs.YtdbnebhehiiakaaGreatDoor
open Go.RowKit
abbrev ElT:=Value × List Int
structure RowU (w:World) (g:Nat) (l:List ElT):Prop where
 cell:∀ i x,l[i]? = some x→w.cell? ⟨g,i,none⟩=some x.1
 free:∀ i,w.frozen? ⟨g,i,none⟩=false
theorem RowU.kept {w w':World} {g:Nat} {l:List ElT} (h:RowU w g l) (hb:w'.heap[g]? = w.heap[g]?):RowU w' g l :=
 ⟨fun i x hx => (World.cell?_of_block (a:=⟨g,i,none⟩) hb).trans (h.cell i x hx),fun i => (World.frozen?_of_block (a:=⟨g,i,none⟩) hb).trans (h.free i)⟩
theorem RowU.set {w:World} {g:Nat} {l:List ElT} (h:RowU w g l) (i:Nat) (y:ElT) (hi:i<l.length):RowU (w.setCell ⟨g,i,none⟩ y.1) g (l.set i y):=by
 refine ⟨fun k x hx => ?_,fun k => by rw [World.frozen?_setCell]; exact h.free k⟩
 by_cases e:k=i
 ·subst e
  rw [List.getElem?_set_self hi] at hx
  cases hx
  exact World.cell?_setCell_same w ⟨g,k,none⟩ _ (h.cell k _ (List.getElem?_eq_getElem hi))
 ·rw [List.getElem?_set_ne (Ne.symm e)] at hx
  rw [World.cell?_setCell_other w ⟨g,i,none⟩ ⟨g,k,none⟩ _ (fun h' => e (by injection h' with _ h2; exact h2.symm))]
  exact h.cell k x hx
theorem swapL_comm {α:Type} (zs:List α) {j:Nat} (hj:0<j) (x y:α):swapL zs j x y=(zs.set (j - 1) x).set j y:=by
 unfold swapL
 rw [List.set_comm _ _ (by omega)]
theorem RowU.swap {w:World} {g:Nat} {l:List ElT} {j:Nat} {x y:ElT} (h:RowU w g l) (hj:0<j) (hl:j<l.length) :
  RowU ((w.setCell ⟨g,j,none⟩ y.1).setCell ⟨g,j - 1,none⟩ x.1) g (swapL l j x y)∧RowU ((w.setCell ⟨g,j - 1,none⟩ x.1).setCell ⟨g,j,none⟩ y.1) g (swapL l j x y):=by
 refine ⟨(h.set j y hl).set (j - 1) x (by simp; omega),?_⟩
 rw [swapL_comm _ hj]
 exact (h.set (j - 1) x (by omega)).set j y (by simp; omega)
theorem swapL_take {α:Type} (zs:List α) {j a:Nat} (hj:a<j) (x y:α):(swapL zs j x y).take a=zs.take a:=by
 unfold swapL
 apply List.ext_getElem?
 intro i
 by_cases hi:i<a
 ·rw [List.getElem?_take_of_lt hi,List.getElem?_take_of_lt hi,List.getElem?_set_ne (by omega),List.getElem?_set_ne (by omega)]
 ·rw [List.getElem?_eq_none (by rw [List.length_take]; omega),List.getElem?_eq_none (by rw [List.length_take]; omega)]
theorem swapL_drop {α:Type} (zs:List α) {j b:Nat} (hj:j<b) (x y:α):(swapL zs j x y).drop b=zs.drop b:=by
 unfold swapL
 apply List.ext_getElem?
 intro i
 rw [List.getElem?_drop,List.getElem?_drop,List.getElem?_set_ne (by omega),List.getElem?_set_ne (by omega)]
def CmpAt (fc:Nat) (lb:Array Value) (K:ElT→List Int) (xs:List ElT) (g:Nat) (W0:World):Prop :=
 ∀ W x y,W0.grownBy W (some g)→x ∈ xs→y ∈ xs→Calls Tryz.prog fc (#[x.1,y.1] ++ lb) W fun e w' => e=.returned (.int .i64 (cmpI (K x) (K y)))∧Below W.heap.size W w'
theorem grown_setG (A:World) (g i:Nat) (v:Value):A.grownBy (A.setCell ⟨g,i,none⟩ v) (some g) :=
 ⟨rfl,rfl,rfl,by simp [World.setCell],fun k _ hk => Below.heap_setCell A ⟨g,i,none⟩ v k (fun e => hk (by rw [e]))⟩
structure SrtO (K:ElT→List Int) (xs zs:List ElT) (a b:Nat):Prop where
 perm:zs.Perm xs
 pre:zs.take a=xs.take a
 suf:zs.drop b=xs.drop b
set_option maxHeartbeats 8000000 in
set_option maxRecDepth 100000 in
theorem insertion_any (fc:Nat) (lb:Array Value) (K:ElT→List Int) (xs:List ElT) (g n cap a b:Nat) (w:World) (eg:∀ args w,(callFunc fc args).run Tryz.prog w=.ok (.enter fc args) w)
  (hr:RowU w g xs) (hsl:∀ x ∈ xs,∃ p m c,x.1=.slice p m c) (hc:CmpAt fc lb K xs g w) (hn:xs.length=n) (ha:a<b) (hb:b≤n) (hnl:n≤1000000) :
  Calls Tryz.prog 177 #[.slice (some ⟨g,0,none⟩) n cap,.int .i64 a,.int .i64 b,.func (.func fc) #[] lb] w fun e w' => e=.returned (.tuple #[])∧∃ zs,SrtO K xs zs a b∧SegS K a b zs∧RowU w' g zs∧w.grownBy w' (some g):=by
 have HR:=Lib.hid hr
 have HSL:=Lib.hid hsl
 have HC:=Lib.hid hc
 have HN:=Lib.hid hn
 clear hr hsl hc hn
 go_enter Tryz.func177,Tryz.ntmps177
 go_wp2
 go_loopw [8] (fun iv wr => ∃ (i:Nat) (zs:List ElT),a<i∧i≤b∧iv=.int .i64 (i:Nat)∧SrtO K xs zs a b∧SegS K a i zs∧RowU wr g zs∧w.grownBy wr (some g)) (fun iv _ => b - (intOf iv).toNat)
 case atStart => exact ⟨a+1,xs,by omega,by omega,by go_num,⟨List.Perm.refl _,rfl,rfl⟩,SegS.one (by rw [HN.out]; omega),HR.out,grown_of_below (Below.refl _ _) _⟩
 case round =>
  obtain ⟨i,zs,hai,hib,rfl,hso,hsg,hrw,hgr⟩:=hrel
  have HSO:=Lib.hid hso
  have HSG:=Lib.hid hsg
  have HRW:=Lib.hid hrw
  have HGR:=Lib.hid hgr
  have HZL:Hid (zs.length=n):=by show _=_; rw [hso.perm.length_eq,HN.out]
  clear hso hsg hrw hgr
  by_cases hlt:i<b
  ·go_wp2
   obtain ⟨w0,hw0⟩:∃ w0,w0=wr:=⟨_,rfl⟩
   rw [← hw0] at HRW HGR ⊢
   clear hw0
   go_loopw [9] (fun jv wy => ∃ (j:Nat) (zs:List ElT),a≤j∧j≤i∧jv=.int .i64 (j:Nat)∧SrtO K xs zs a b∧InsAt K a j i zs∧RowU wy g zs∧w.grownBy wy (some g)) (fun jv _ => (intOf jv).toNat)
   case atStart => exact ⟨i,zs,by omega,Nat.le_refl _,rfl,HSO.out,InsAt.start HSG.out (by rw [HZL.out]; omega),HRW.out,HGR.out⟩
   case round =>
    clear HSO HSG HRW HGR HZL zs
    obtain ⟨j,zs,haj,hji,rfl,hso,hin,hrw,hgr⟩:=hrel
    have HSO:=Lib.hid hso
    have HIN:=Lib.hid hin
    have HRW:=Lib.hid hrw
    have HGR:=Lib.hid hgr
    have HZL:Hid (zs.length=n):=by show _=_; rw [hso.perm.length_eq,HN.out]
    clear hso hin hrw hgr
    by_cases hja:a<j
    ·obtain ⟨x,hx⟩:∃ x,zs[j]? = some x:=⟨_,List.getElem?_eq_getElem (by rw [HZL.out]; omega)⟩
     obtain ⟨y,hy⟩:∃ y,zs[j - 1]? = some y:=⟨_,List.getElem?_eq_getElem (by rw [HZL.out]; omega)⟩
     have HX:=Lib.hid hx
     have HY:=Lib.hid hy
     have hxm:x ∈ xs:=HSO.out.perm.mem_iff.1 (List.mem_of_getElem? hx)
     have hym:y ∈ xs:=HSO.out.perm.mem_iff.1 (List.mem_of_getElem? hy)
     have HCC:=Lib.hid (fun w1 (h1:w.grownBy w1 (some g)) => HC.out w1 x y h1 hxm hym)
     have hcx:=HRW.out.cell j x hx
     have hcy:=HRW.out.cell (j - 1) y hy
     obtain ⟨p1,m1,c1,e1⟩:=HSL.out x hxm
     obtain ⟨p2,m2,c2,e2⟩:=HSL.out y hym
     have E1:=Lib.hid e1
     have E2:=Lib.hid e2
     rw [e1] at hcx
     rw [e2] at hcy
     rw [e1,e2] at HCC
     clear hx hy hxm hym e1 e2
     obtain ⟨q,rfl⟩:∃ q,j=q+1:=⟨j - 1,by omega⟩
     rw [Nat.add_sub_cancel] at hcy HY
     have K1:Hid (∀ w',Below wr.heap.size wr w'→w'.cell? ⟨g,q+1,none⟩=some (.slice p1 m1 c1)∧w'.cell? ⟨g,q,none⟩=some (.slice p2 m2 c2)∧Below wr.heap.size wr w'):=fun w' hb' => ⟨cell_later hcx hb',cell_later hcy hb',hb'⟩
     go_wp2
     have b0:(0:Int)≤(q:Int):=by omega
     have b1:(q:Int)<(n:Int):=by omega
     have b2:(q:Int)+1<(n:Int):=by omega
     have b3:IntKind.i64.wrap ((q:Int)+1 - 1)=(q:Int):=by rw [Int.add_sub_cancel]; exact IntWalk.i64_in _ (by omega)
     have b4:IntKind.i64.wrap (q:Int)=(q:Int):=IntWalk.i64_in _ (by omega)
     have b5:(a:Int)<(q:Int)+1:=by omega
     have b6:decide ((a:Int)<(q:Int)+1)=true:=decide_eq_true b5
     have b7:((q:Int)+1).toNat=q+1:=by omega
     have b8:(0:Int)≤(q:Int)+1:=by omega
     generalize hcm:cmpI (K x) (K y)=cv at HCC
     go_region_held3 (fun w' => w'.cell? ⟨g,q+1,none⟩=some (.slice p1 m1 c1)∧w'.cell? ⟨g,q,none⟩=some (.slice p2 m2 c2)∧Below wr.heap.size wr w')
      (first | exact K1.out _ (Below.refl _ _).drew | exact K1.out _ (by assumption))
      ((refine (HCC.out _ (HGR.out.trans (grown_of_below (Below.refl _ _).drew _))).mono ?_; rintro e w2 ⟨rfl,hb2⟩; have hb3:Below wr.heap.size wr w2:=below_keep (Below.refl _ _).drew hb2))
     have HG2:=Lib.hid ((HGR.out.trans (grown_of_below hb3 (some g))))
     have HR2:=Lib.hid (HRW.out.kept (hb3.block g (World.block_lt_of_cell? _ _ hcx)))
     have HCM:=Lib.hid hcm
     obtain ⟨hcx2,hcy2,-⟩:=K1.out w2 hb3
     have hfx:=HR2.out.free (q+1)
     have hfy:=HR2.out.free q
     clear hb2 hb3 hcm HCC K1 hcx hcy
     rcases cmpI_cases (K x) (K y) with hv | hv | hv
     ·have hlt2:Hid (ltK K x y):=hv
      rw [HCM.out] at hv
      subst hv
      have b9:((q:Int) - 0).toNat=q:=by omega
      go_wp2
      go_region
      have hsw:=(HR2.out.swap (j:=q+1) (x:=x) (y:=y) (by omega) (by rw [HZL.out]; omega)).1
      rw [Nat.add_sub_cancel,E1.out,E2.out] at hsw
      have HSW:=Lib.hid hsw
      have HSO2:Hid (SrtO K xs (swapL zs (q+1) x y) a b):=⟨(swapL_perm (by omega) HX.out (by rw [Nat.add_sub_cancel]; exact HY.out)).trans HSO.out.perm,(swapL_take _ (by omega) _ _).trans HSO.out.pre,(swapL_drop _ (by omega) _ _).trans HSO.out.suf⟩
      have HIN2:Hid (InsAt K a q i (swapL zs (q+1) x y)):=HIN.out.down (by omega) HX.out (by rw [Nat.add_sub_cancel]; exact HY.out) hlt2.out
      clear hsw
      go_wp2
      exact ⟨⟨q,_,by omega,by omega,rfl,HSO2.out,HIN2.out,HSW.out.kept rfl,(HG2.out.trans (grown_setG w2 g (q+1) _)).trans ((grown_setG _ g q _).trans (grown_of_below (Below.refl _ _).drew _))⟩,by show _<_; simp [intOf]⟩
     ·have hst:Hid (SegS K a (i+1) zs):=HIN.out.stop (.inr ⟨x,y,HX.out,HY.out,by unfold ltK; rw [hv]; decide⟩)
      rw [HCM.out] at hv
      subst hv
      go_wp2
      exact ⟨⟨i+1,zs,by omega,by omega,by go_num,HSO.out,hst.out,HR2.out,HG2.out⟩,by show b - _<b - _; simp [intOf]; omega⟩
     ·have hst:Hid (SegS K a (i+1) zs):=HIN.out.stop (.inr ⟨x,y,HX.out,HY.out,by unfold ltK; rw [hv]; decide⟩)
      rw [HCM.out] at hv
      subst hv
      go_wp2
      exact ⟨⟨i+1,zs,by omega,by omega,by go_num,HSO.out,hst.out,HR2.out,HG2.out⟩,by show b - _<b - _; simp [intOf]; omega⟩
    ·obtain rfl:j=a:=by omega
     have b6:decide ((j:Int)<(j:Int))=false:=by simp
     have HSG2:=Lib.hid (HIN.out.stop (.inl rfl))
     go_wp2
     go_quiet (fail)
     go_wp2
     exact ⟨⟨i+1,zs,by omega,by omega,by go_num,HSO.out,HSG2.out,HRW.out.kept rfl,HGR.out.trans (grown_of_below (below_drewN' _ _) _)⟩,by show b - _<b - _; simp [intOf]; omega⟩
  ·obtain rfl:i=b:=by omega
   go_wp2
   go_end0
   exact ⟨rfl,zs,HSO.out,HSG.out,HRW.out,HGR.out⟩
end Go.Proofs.YtdbnebhehiiakaaGreatDoor
namespace Go.Proofs.YtdbnebhehiiakaaGreatDoor
open Go.RowKit
def RetSo (K:ElT→List Int) (xs:List ElT) (g:Nat) (w:World) (e:Ending) (w':World):Prop:=e=.returned (.tuple #[])∧∃ zs,zs.Perm xs∧SortK K zs∧RowU w' g zs∧w.grownBy w' (some g)
set_option maxHeartbeats 2000000 in
theorem stable_small (fc:Nat) (lb:Array Value) (K:ElT→List Int) (xs:List ElT) (g n cap:Nat) (w:World) (eg:∀ args w,(callFunc fc args).run Tryz.prog w=.ok (.enter fc args) w)
  (hr:RowU w g xs) (hsl:∀ x ∈ xs,∃ p m c,x.1=.slice p m c) (hc:CmpAt fc lb K xs g w) (hn:xs.length=n) (h1:1≤n) (h2:n<20) :
  Calls Tryz.prog 144 #[.slice (some ⟨g,0,none⟩) n cap,.int .i64 n,.func (.func fc) #[] lb] w (RetSo K xs g w):=by
 have C:=Lib.hid (insertion_any fc lb K xs g n cap 0 n w eg hr hsl hc hn (by omega) (Nat.le_refl _) (by omega))
 have HN:=Lib.hid hn
 have h3:(n:Int)<20:=by omega
 clear hr hsl hc hn eg
 go_enter Tryz.func144,Tryz.ntmps144
 go_wp2
 go_loop [7,8] (fun av bv => av=.int .i64 0∧bv=.int .i64 20) (fun _ _ => 0)
 case atStart => exact ⟨rfl,rfl⟩
 case round =>
  obtain ⟨rfl,rfl⟩:=hrel
  go_wp2_with fail
  refine C.out.mono ?_
  rintro e w1 ⟨rfl,zs,hso,hsg,hrw,hg⟩
  have HSO:=Lib.hid hso
  have HSG:=Lib.hid hsg
  have HRW:=Lib.hid hrw
  have HG:=Lib.hid hg
  clear hso hsg hrw hg C
  go_wp2
  go_loop [6,7,8,9] (fun bs _ _ _ => bs=.int .i64 20) (fun _ _ _ _ => 0)
  case atStart => rfl
  case round =>
   obtain rfl:=hrel
   go_wp2
   go_end0
   have hl:zs.length=n:=by rw [HSO.out.perm.length_eq,HN.out]
   have:=HSG.out
   rw [← hl] at this
   exact ⟨rfl,zs,HSO.out.perm,this.whole,HRW.out,HG.out⟩
theorem sortStable_small (fc:Nat) (lb:Array Value) (K:ElT→List Int) (xs:List ElT) (g n cap:Nat) (w:World) (eg:∀ args w,(callFunc fc args).run Tryz.prog w=.ok (.enter fc args) w)
  (hr:RowU w g xs) (hsl:∀ x ∈ xs,∃ p m c,x.1=.slice p m c) (hc:CmpAt fc lb K xs g w) (hn:xs.length=n) (h1:1≤n) (h2:n<20) :
  Calls Tryz.prog 101 #[.slice (some ⟨g,0,none⟩) n cap,.func (.func fc) #[] lb] w (RetSo K xs g w):=by
 have C:=Lib.hid (stable_small fc lb K xs g n cap w eg hr hsl hc hn h1 h2)
 clear hr hsl hc hn eg
 go_enter Tryz.func101,Tryz.ntmps101
 go_wp2_with fail
 refine C.out.mono ?_
 rintro e w1 ⟨rfl,hx⟩
 have HX:=Lib.hid hx
 clear hx C
 go_wp2
 go_end0
 exact ⟨rfl,HX.out⟩
end Go.Proofs.YtdbnebhehiiakaaGreatDoor
