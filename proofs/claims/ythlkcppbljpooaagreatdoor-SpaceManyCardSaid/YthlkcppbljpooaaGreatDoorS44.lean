/- Lemmas and contracts, each under its own condition: Merging two sorted neighbours in place, in plain words: exchanged runs, rotation, bisection. Sorting by blocks that are merged two by two, in plain words. slices.swapRangeCmpFunc and slices.rotateCmpFunc at lists of integers: contracts. slices.symMergeCmpFunc at lists of integers: where one part has one element. -/
import Derived.BigRegion
import Derived.IntWalk
import Derived.Deep.DeepCutAuto
import Derived.Deep.CutBlock
import Derived.Test.YthlkcppbljpooaaGreatDoorS7
/- Merging two sorted neighbours in place, in plain words: exchanged runs, rotation, bisection. -/
namespace Go.Proofs.YthlkcppbljpooaaGreatDoor

/-- i elements from a on are exchanged with those from b on -/
def SwpR {α : Type} (z0 zs : List α) (a b i : Nat) : Prop := ∀ k, zs[k]? = if a ≤ k ∧ k < a + i then z0[k - a + b]? else if b ≤ k ∧ k < b + i then z0[k - b + a]? else z0[k]?
theorem SwpR.start {α : Type} (z0 : List α) (a b : Nat) : SwpR z0 z0 a b 0 := fun k => by
 rw [if_neg (by omega), if_neg (by omega)]
theorem SwpR.len {α : Type} {z0 zs : List α} {a b i : Nat} (h : SwpR z0 zs a b i) (h2 : a + i ≤ b) (h3 : b + i ≤ z0.length) : zs.length = z0.length := by
 have e : ∀ k, zs[k]? = none ↔ z0[k]? = none := fun k => by
  rw [h k]
  split
  ·rw [List.getElem?_eq_none_iff, List.getElem?_eq_none_iff]; omega
  ·split
   ·rw [List.getElem?_eq_none_iff, List.getElem?_eq_none_iff]; omega
   ·rfl
 have e1 := (e zs.length).1 (List.getElem?_eq_none_iff.2 (Nat.le_refl _))
 have e2 := (e z0.length).2 (List.getElem?_eq_none_iff.2 (Nat.le_refl _))
 rw [List.getElem?_eq_none_iff] at e1 e2
 omega
theorem SwpR.step {α : Type} {z0 zs : List α} {a b i : Nat} {x y : α} (h : SwpR z0 zs a b i) (h2 : a + i < b) (h3 : b + i < z0.length) (hx : zs[a + i]? = some x) (hy : zs[b + i]? = some y) : SwpR z0 ((zs.set (a + i) y).set (b + i) x) a b (i + 1) := by
 have hl := h.len (by omega) (by omega)
 have ex := h (a + i)
 have ey := h (b + i)
 rw [if_neg (by omega), if_neg (by omega), hx] at ex
 rw [if_neg (by omega), if_neg (by omega), hy] at ey
 intro k
 by_cases k1 : k = b + i
 ·subst k1
  rw [List.getElem?_set_self (by simp; omega), if_neg (by omega), if_pos (by omega), show b + i - b + a = a + i from by omega, ex]
 ·rw [List.getElem?_set_ne (Ne.symm k1)]
  by_cases k2 : k = a + i
  ·subst k2
   rw [List.getElem?_set_self (by omega), if_pos (by omega), show a + i - a + b = b + i from by omega, ey]
  ·rw [List.getElem?_set_ne (Ne.symm k2), h k]
   by_cases k3 : a ≤ k ∧ k < a + i
   ·rw [if_pos k3, if_pos (show a ≤ k ∧ k < a + (i + 1) by omega)]
   ·rw [if_neg k3, if_neg (show ¬ (a ≤ k ∧ k < a + (i + 1)) by omega)]
    by_cases k4 : b ≤ k ∧ k < b + i
    ·rw [if_pos k4, if_pos (show b ≤ k ∧ k < b + (i + 1) by omega)]
    ·rw [if_neg k4, if_neg (show ¬ (b ≤ k ∧ k < b + (i + 1)) by omega)]
theorem SwpR.lists {α : Type} {zs P X M Y R : List α} {a b n : Nat} (h : SwpR (P ++ (X ++ (M ++ (Y ++ R)))) zs a b n) (hP : P.length = a) (hX : X.length = n) (hM : a + n + M.length = b) (hY : Y.length = n) : zs = P ++ (Y ++ (M ++ (X ++ R))) := by
 apply List.ext_getElem?
 intro k
 rw [h k]
 by_cases k1 : a ≤ k ∧ k < a + n
 ·rw [if_pos k1, List.getElem?_append_right (by omega), List.getElem?_append_right (by omega), List.getElem?_append_right (by omega), List.getElem?_append_left (by omega), List.getElem?_append_right (by omega), List.getElem?_append_left (by omega)]
  congr 1; omega
 ·rw [if_neg k1]
  by_cases k2 : b ≤ k ∧ k < b + n
  ·rw [if_pos k2, List.getElem?_append_right (by omega), List.getElem?_append_left (by omega), List.getElem?_append_right (by omega), List.getElem?_append_right (by omega), List.getElem?_append_right (by omega), List.getElem?_append_left (by omega)]
   congr 1; omega
  ·rw [if_neg k2]
   by_cases k3 : k < a
   ·rw [List.getElem?_append_left (by omega), List.getElem?_append_left (by omega)]
   ·by_cases k4 : k < b
    ·rw [List.getElem?_append_right (by omega), List.getElem?_append_right (by omega), List.getElem?_append_left (by omega), List.getElem?_append_right (by omega), List.getElem?_append_right (by omega), List.getElem?_append_left (by omega)]
     congr 1; omega
    ·rw [List.getElem?_append_right (by omega), List.getElem?_append_right (by omega), List.getElem?_append_right (by omega), List.getElem?_append_right (by omega), List.getElem?_append_right (by omega), List.getElem?_append_right (by omega), List.getElem?_append_right (by omega), List.getElem?_append_right (by omega)]
     congr 1; omega

/-- the element at a has gone up by t -/
def MovU {α : Type} (z0 zs : List α) (a t : Nat) : Prop := ∀ k, zs[k]? = if a ≤ k ∧ k < a + t then z0[k + 1]? else if k = a + t then z0[a]? else z0[k]?
theorem MovU.start {α : Type} (z0 : List α) (a : Nat) : MovU z0 z0 a 0 := fun k => by
 rw [if_neg (by omega)]
 split
 ·rename_i h; rw [h, Nat.add_zero]
 ·rfl
theorem MovU.len {α : Type} {z0 zs : List α} {a t : Nat} (h : MovU z0 zs a t) (h3 : a + t < z0.length) : zs.length = z0.length := by
 have e : ∀ k, zs[k]? = none ↔ z0[k]? = none := fun k => by
  rw [h k]
  split
  ·rw [List.getElem?_eq_none_iff, List.getElem?_eq_none_iff]; omega
  ·split
   ·rw [List.getElem?_eq_none_iff, List.getElem?_eq_none_iff]; omega
   ·rfl
 have e1 := (e zs.length).1 (List.getElem?_eq_none_iff.2 (Nat.le_refl _))
 have e2 := (e z0.length).2 (List.getElem?_eq_none_iff.2 (Nat.le_refl _))
 rw [List.getElem?_eq_none_iff] at e1 e2
 omega
theorem MovU.step {α : Type} {z0 zs : List α} {a t : Nat} {x y : α} (h : MovU z0 zs a t) (h3 : a + t + 1 < z0.length) (hx : zs[a + t]? = some x) (hy : zs[a + t + 1]? = some y) : MovU z0 ((zs.set (a + t) y).set (a + t + 1) x) a (t + 1) := by
 have hl := h.len (by omega)
 have ex := h (a + t)
 have ey := h (a + t + 1)
 rw [if_neg (by omega), if_pos rfl, hx] at ex
 rw [if_neg (by omega), if_neg (by omega), hy] at ey
 intro k
 by_cases k1 : k = a + t + 1
 ·subst k1
  rw [List.getElem?_set_self (by simp; omega), if_neg (by omega), if_pos (by omega), ex]
 ·rw [List.getElem?_set_ne (Ne.symm k1)]
  by_cases k2 : k = a + t
  ·subst k2
   rw [List.getElem?_set_self (by omega), if_pos (by omega), ey]
  ·rw [List.getElem?_set_ne (Ne.symm k2), h k]
   by_cases k3 : a ≤ k ∧ k < a + t
   ·rw [if_pos k3, if_pos (show a ≤ k ∧ k < a + (t + 1) by omega)]
   ·rw [if_neg k3, if_neg k2, if_neg (show ¬ (a ≤ k ∧ k < a + (t + 1)) by omega), if_neg (show ¬ (k = a + (t + 1)) by omega)]
theorem MovU.lists {α : Type} {zs P X R : List α} {x : α} {a n : Nat} (h : MovU (P ++ (x :: (X ++ R))) zs a n) (hP : P.length = a) (hX : X.length = n) : zs = P ++ (X ++ (x :: R)) := by
 apply List.ext_getElem?
 intro k
 rw [h k]
 by_cases k1 : a ≤ k ∧ k < a + n
 ·rw [if_pos k1, List.getElem?_append_right (by omega), List.getElem?_append_right (by omega), List.getElem?_append_left (by omega), show k + 1 - P.length = (k - P.length) + 1 from by omega, List.getElem?_cons_succ, List.getElem?_append_left (by omega)]
 ·rw [if_neg k1]
  by_cases k2 : k = a + n
  ·rw [if_pos k2, List.getElem?_append_right (by omega), List.getElem?_append_right (by omega), List.getElem?_append_right (by omega), show a - P.length = 0 from by omega, show k - P.length - X.length = 0 from by omega]
   rfl
  ·rw [if_neg k2]
   by_cases k3 : k < a
   ·rw [List.getElem?_append_left (by omega), List.getElem?_append_left (by omega)]
   ·rw [List.getElem?_append_right (by omega), List.getElem?_append_right (by omega), List.getElem?_append_right (by omega), show k - P.length = (k - P.length - 1) + 1 from by omega, List.getElem?_cons_succ, List.getElem?_append_right (by omega), show k - P.length - 1 + 1 - X.length = (k - P.length - 1 - X.length) + 1 from by omega, List.getElem?_cons_succ]
/-- the element at m has gone down by t -/
def MovD {α : Type} (z0 zs : List α) (m t : Nat) : Prop := ∀ k, zs[k]? = if m < k + t ∧ k ≤ m then z0[k - 1]? else if k + t = m then z0[m]? else z0[k]?
theorem MovD.start {α : Type} (z0 : List α) (m : Nat) : MovD z0 z0 m 0 := fun k => by
 rw [if_neg (by omega)]
 split
 ·rename_i h; rw [← h, Nat.add_zero]
 ·rfl
theorem MovD.len {α : Type} {z0 zs : List α} {m t : Nat} (h : MovD z0 zs m t) (h3 : m < z0.length) (ht : t ≤ m) : zs.length = z0.length := by
 have e : ∀ k, zs[k]? = none ↔ z0[k]? = none := fun k => by
  rw [h k]
  split
  ·rw [List.getElem?_eq_none_iff, List.getElem?_eq_none_iff]; omega
  ·split
   ·rw [List.getElem?_eq_none_iff, List.getElem?_eq_none_iff]; omega
   ·rfl
 have e1 := (e zs.length).1 (List.getElem?_eq_none_iff.2 (Nat.le_refl _))
 have e2 := (e z0.length).2 (List.getElem?_eq_none_iff.2 (Nat.le_refl _))
 rw [List.getElem?_eq_none_iff] at e1 e2
 omega
theorem MovD.step {α : Type} {z0 zs : List α} {m t j : Nat} {x y : α} (h : MovD z0 zs m t) (h3 : m < z0.length) (hj : j + 1 + t = m) (hx : zs[j + 1]? = some x) (hy : zs[j]? = some y) : MovD z0 ((zs.set (j + 1) y).set j x) m (t + 1) := by
 have hl := h.len h3 (by omega)
 have ex := h (j + 1)
 have ey := h j
 rw [if_neg (by omega), if_pos (by omega), hx] at ex
 rw [if_neg (by omega), if_neg (by omega), hy] at ey
 intro k
 by_cases k1 : k = j
 ·subst k1
  rw [List.getElem?_set_self (by simp; omega), if_neg (by omega), if_pos (by omega), ex]
 ·rw [List.getElem?_set_ne (Ne.symm k1)]
  by_cases k2 : k = j + 1
  ·subst k2
   rw [List.getElem?_set_self (by omega), if_pos (by omega), Nat.add_sub_cancel, ey]
  ·rw [List.getElem?_set_ne (Ne.symm k2), h k]
   by_cases k3 : m < k + t ∧ k ≤ m
   ·rw [if_pos k3, if_pos (show m < k + (t + 1) ∧ k ≤ m by omega)]
   ·rw [if_neg k3, if_neg (show ¬ (k + t = m) by omega), if_neg (show ¬ (m < k + (t + 1) ∧ k ≤ m) by omega), if_neg (show ¬ (k + (t + 1) = m) by omega)]
theorem MovD.lists {α : Type} {zs P X R : List α} {x : α} {m n : Nat} (h : MovD (P ++ (X ++ (x :: R))) zs m n) (hX : X.length = n) (hP : P.length + n = m) : zs = P ++ (x :: (X ++ R)) := by
 apply List.ext_getElem?
 intro k
 rw [h k]
 by_cases k1 : m < k + n ∧ k ≤ m
 ·rw [if_pos k1, List.getElem?_append_right (by omega), List.getElem?_append_left (by omega), List.getElem?_append_right (by omega), show k - P.length = (k - 1 - P.length) + 1 from by omega, List.getElem?_cons_succ, List.getElem?_append_left (by omega)]
 ·rw [if_neg k1]
  by_cases k2 : k + n = m
  ·rw [if_pos k2, List.getElem?_append_right (by omega), List.getElem?_append_right (by omega), List.getElem?_append_right (by omega), show m - P.length - X.length = 0 from by omega, show k - P.length = 0 from by omega]
   rfl
  ·rw [if_neg k2]
   by_cases k3 : k < P.length
   ·rw [List.getElem?_append_left (by omega), List.getElem?_append_left (by omega)]
   ·rw [List.getElem?_append_right (by omega), List.getElem?_append_right (by omega), List.getElem?_append_right (by omega), show k - P.length = (k - P.length - 1) + 1 from by omega, List.getElem?_cons_succ, List.getElem?_append_right (by omega), show k - P.length - 1 + 1 - X.length = (k - P.length - 1 - X.length) + 1 from by omega, List.getElem?_cons_succ]

/-- what a rotation's loop knows: the runs of i and j elements before and behind m are still to be exchanged -/
structure RotAt {α : Type} (m i j : Nat) (zs Z : List α) : Prop where
 ex : ∃ L A B R, zs = L ++ (A ++ (B ++ R)) ∧ Z = L ++ (B ++ (A ++ R)) ∧ L.length + i = m ∧ A.length = i ∧ B.length = j
theorem RotAt.up {α : Type} {m i j : Nat} {zs zs' Z : List α} (h : RotAt m i j zs Z) (hij : j < i) (hs : SwpR zs zs' (m - i) m j) : RotAt m (i - j) j zs' Z := by
 obtain ⟨L, A, B, R, rfl, rfl, h1, h2, h3⟩ := h
 have e : A = A.take j ++ A.drop j := (List.take_append_drop j A).symm
 have l1 : (A.take j).length = j := by rw [List.length_take]; omega
 have l2 : (A.drop j).length = i - j := by rw [List.length_drop]; omega
 generalize A.take j = A1 at *
 generalize A.drop j = A2 at *
 subst e
 rw [List.append_assoc] at hs
 have := SwpR.lists hs (by omega) l1 (by omega) h3
 subst this
 exact ⟨L ++ B, A2, A1, R, by simp, by simp, by simp; omega, l2, l1⟩
theorem RotAt.down {α : Type} {m i j : Nat} {zs zs' Z : List α} (h : RotAt m i j zs Z) (hij : i < j) (hs : SwpR zs zs' (m - i) (m + j - i) i) : RotAt m i (j - i) zs' Z := by
 obtain ⟨L, A, B, R, rfl, rfl, h1, h2, h3⟩ := h
 have e : B = B.take (j - i) ++ B.drop (j - i) := (List.take_append_drop _ B).symm
 have l1 : (B.take (j - i)).length = j - i := by rw [List.length_take]; omega
 have l2 : (B.drop (j - i)).length = i := by rw [List.length_drop]; omega
 generalize B.take (j - i) = B1 at *
 generalize B.drop (j - i) = B2 at *
 subst e
 rw [List.append_assoc] at hs
 have := SwpR.lists hs (by omega) h2 (by omega) l2
 subst this
 exact ⟨L, B2, B1, A ++ R, by simp, by simp, by omega, l2, l1⟩
theorem RotAt.last {α : Type} {m i : Nat} {zs zs' Z : List α} (h : RotAt m i i zs Z) (hs : SwpR zs zs' (m - i) m i) : zs' = Z := by
 obtain ⟨L, A, B, R, rfl, rfl, h1, h2, h3⟩ := h
 have := SwpR.lists (M := []) (R := R) (by simpa using hs) (by omega) h2 (by simp; omega) h3
 simpa using this

/-- bisection: what holds below i and fails from j on -/
structure Bis (pr : Nat → Prop) (lo hi i j : Nat) : Prop where
 ge : lo ≤ i
 le : i ≤ j
 top : j ≤ hi
 low : ∀ c, lo ≤ c → c < i → pr c
 high : ∀ c, j ≤ c → c < hi → ¬ pr c
def DownC (pr : Nat → Prop) (lo hi : Nat) : Prop := ∀ c c', lo ≤ c' → c' ≤ c → c < hi → pr c → pr c'
theorem Bis.start {pr : Nat → Prop} {lo hi : Nat} (h : lo ≤ hi) : Bis pr lo hi lo hi := ⟨Nat.le_refl _, h, Nat.le_refl _, fun c h1 h2 => by omega, fun c h1 h2 => by omega⟩
theorem Bis.up {pr : Nat → Prop} {lo hi i j c : Nat} (h : Bis pr lo hi i j) (hd : DownC pr lo hi) (h1 : i ≤ c) (h2 : c < j) (hp : pr c) : Bis pr lo hi (c + 1) j :=
 ⟨by have := h.ge; omega, by omega, h.top, fun d d1 d2 => hd c d d1 (by omega) (by have := h.top; omega) hp, h.high⟩
theorem Bis.down {pr : Nat → Prop} {lo hi i j c : Nat} (h : Bis pr lo hi i j) (hd : DownC pr lo hi) (h1 : i ≤ c) (h2 : c < j) (hp : ¬ pr c) : Bis pr lo hi i c :=
 ⟨h.ge, h1, by have := h.top; omega, h.low, fun d d1 d2 hpd => hp (hd d c (by have := h.ge; omega) d1 d2 hpd)⟩

/-- two sorted neighbours -/
structure MrgS {α : Type} (K : α → List Int) (a m b : Nat) (zs : List α) : Prop where
 ex : ∃ P A B R, zs = P ++ (A ++ (B ++ R)) ∧ P.length = a ∧ a + A.length = m ∧ m + B.length = b ∧ SortK K A ∧ SortK K B
/-- the segment is sorted, nothing else is changed -/
structure MrgE {α : Type} (K : α → List Int) (a b : Nat) (zs zs' : List α) : Prop where
 ex : ∃ P C D R, zs = P ++ (C ++ R) ∧ zs' = P ++ (D ++ R) ∧ P.length = a ∧ a + C.length = b ∧ D.Perm C ∧ SortK K D
theorem MrgS.len {α : Type} {K : α → List Int} {a m b : Nat} {zs : List α} (h : MrgS K a m b zs) : a ≤ m ∧ m ≤ b ∧ b ≤ zs.length := by
 obtain ⟨P, A, B, R, rfl, h1, h2, h3, -⟩ := h
 simp
 omega
theorem MrgE.perm {α : Type} {K : α → List Int} {a b : Nat} {zs zs' : List α} (h : MrgE K a b zs zs') : zs'.Perm zs := by
 obtain ⟨P, C, D, R, rfl, rfl, -, -, hp, -⟩ := h
 exact List.Perm.append_left P (List.Perm.append_right R hp)
theorem sort_get {α : Type} {K : α → List Int} {l : List α} (h : SortK K l) {i j : Nat} {x y : α} (hij : i < j) (hx : l[i]? = some x) (hy : l[j]? = some y) : leK K x y := by
 obtain ⟨i1, rfl⟩ := List.getElem?_eq_some_iff.1 hx
 obtain ⟨j1, rfl⟩ := List.getElem?_eq_some_iff.1 hy
 exact List.pairwise_iff_getElem.1 h i j i1 j1 hij
theorem leK.refl {α : Type} (K : α → List Int) (x : α) : leK K x x := by
 unfold leK
 rw [cmpI_self]
 decide
theorem sort_get' {α : Type} {K : α → List Int} {l : List α} (h : SortK K l) {i j : Nat} {x y : α} (hij : i ≤ j) (hx : l[i]? = some x) (hy : l[j]? = some y) : leK K x y := by
 by_cases e : i = j
 ·subst e
  rw [hx] at hy
  cases hy
  exact leK.refl K x
 ·exact sort_get h (by omega) hx hy
theorem ltK_of_le_lt {α : Type} {K : α → List Int} {x y z : α} (h1 : leK K x y) (h2 : ltK K y z) : ltK K x z := by
 apply Classical.byContradiction
 intro h
 have h3 : leK K z y := (not_ltK h).trans h1
 exact h3 h2
theorem ltK_of_lt_le {α : Type} {K : α → List Int} {x y z : α} (h1 : ltK K x y) (h2 : leK K y z) : ltK K x z := by
 apply Classical.byContradiction
 intro h
 have h3 : leK K y x := h2.trans (not_ltK h)
 exact h3 h1
/-- the element at c of zs is below x -/
def BelowK {α : Type} (K : α → List Int) (zs : List α) (x : α) (c : Nat) : Prop := ∃ y, zs[c]? = some y ∧ ltK K y x
def UpToK {α : Type} (K : α → List Int) (zs : List α) (x : α) (c : Nat) : Prop := ∃ y, zs[c]? = some y ∧ ¬ ltK K x y
theorem MrgS.right {α : Type} {K : α → List Int} {a m b : Nat} {zs : List α} (h : MrgS K a m b zs) {i j : Nat} {x y : α} (h1 : m ≤ i) (h2 : i ≤ j) (h3 : j < b) (hx : zs[i]? = some x) (hy : zs[j]? = some y) : leK K x y := by
 obtain ⟨P, A, B, R, rfl, e1, e2, e3, -, sB⟩ := h
 rw [List.getElem?_append_right (by omega), List.getElem?_append_right (by omega), List.getElem?_append_left (by omega)] at hx hy
 exact sort_get' sB (by omega) hx hy
theorem MrgS.left {α : Type} {K : α → List Int} {a m b : Nat} {zs : List α} (h : MrgS K a m b zs) {i j : Nat} {x y : α} (h1 : a ≤ i) (h2 : i ≤ j) (h3 : j < m) (hx : zs[i]? = some x) (hy : zs[j]? = some y) : leK K x y := by
 obtain ⟨P, A, B, R, rfl, e1, e2, e3, sA, -⟩ := h
 rw [List.getElem?_append_right (by omega), List.getElem?_append_left (by omega)] at hx hy
 exact sort_get' sA (by omega) hx hy
theorem get_some {α : Type} {zs : List α} {c : Nat} (h : c < zs.length) : ∃ y, zs[c]? = some y := ⟨_, List.getElem?_eq_getElem h⟩
theorem MrgS.downBelow {α : Type} {K : α → List Int} {a m b : Nat} {zs : List α} (h : MrgS K a m b zs) (x : α) : DownC (BelowK K zs x) m b := fun c c' h1 h2 h3 ⟨y, hy, hl⟩ => by
 have := h.len
 obtain ⟨z, hz⟩ := get_some (zs := zs) (c := c') (by omega)
 exact ⟨z, hz, ltK_of_le_lt (h.right h1 h2 h3 hz hy) hl⟩
theorem MrgS.downUpTo {α : Type} {K : α → List Int} {a m b : Nat} {zs : List α} (h : MrgS K a m b zs) (x : α) : DownC (UpToK K zs x) a m := fun c c' h1 h2 h3 ⟨y, hy, hl⟩ => by
 have := h.len
 obtain ⟨z, hz⟩ := get_some (zs := zs) (c := c') (by omega)
 exact ⟨z, hz, fun hc => hl (ltK_of_lt_le hc (h.left h1 h2 h3 hz hy))⟩
/-- the left part has one element: it goes up to its place -/
theorem MrgS.one_left {α : Type} {K : α → List Int} {a m b i : Nat} {zs zs' : List α} {x : α} (h : MrgS K a m b zs) (hm : m = a + 1) (hx : zs[a]? = some x) (hb : Bis (BelowK K zs x) m b i i) (hv : MovU zs zs' a (i - m)) : MrgE K a b zs zs' := by
 obtain ⟨P, A, B, R, rfl, e1, e2, e3, sA, sB⟩ := h
 obtain ⟨x', rfl⟩ : ∃ x', A = [x'] := List.length_eq_one_iff.1 (by omega)
 have h0 := get_mid (P := P) (Q := B ++ R) (x := x') e1
 rw [List.singleton_append, h0] at hx
 cases hx
 have e : B = B.take (i - m) ++ B.drop (i - m) := (List.take_append_drop _ B).symm
 have hhi := hb.top
 have l1 : (B.take (i - m)).length = i - m := by rw [List.length_take]; have := hb.ge; omega
 have low : ∀ y ∈ B.take (i - m), ltK K y x := fun y hy => by
  obtain ⟨c, hc⟩ := List.mem_iff_getElem?.1 hy
  have hlt := (List.getElem?_eq_some_iff.1 hc).1
  rw [l1] at hlt
  rw [List.getElem?_take_of_lt hlt] at hc
  obtain ⟨z, hz, hl⟩ := hb.low (m + c) (by omega) (by omega)
  rw [List.getElem?_append_right (by omega), List.getElem?_append_right (by simp; omega), List.getElem?_append_left (by simp; omega), show m + c - P.length - [x].length = c from by simp; omega, hc] at hz
  cases hz
  exact hl
 have high : ∀ y ∈ B.drop (i - m), ¬ ltK K y x := fun y hy hl => by
  obtain ⟨c, hc⟩ := List.mem_iff_getElem?.1 hy
  have hlt := (List.getElem?_eq_some_iff.1 hc).1
  rw [List.length_drop] at hlt
  rw [List.getElem?_drop] at hc
  refine hb.high (i + c) (by omega) (by have := hb.ge; omega) ⟨y, ?_, hl⟩
  rw [List.getElem?_append_right (by have := hb.ge; omega), List.getElem?_append_right (by have := hb.ge; simp; omega), List.getElem?_append_left (by have := hb.ge; simp; omega), show i + c - P.length - [x].length = i - m + c from by have := hb.ge; simp; omega, hc]
 generalize B.take (i - m) = B1 at *
 generalize B.drop (i - m) = B2 at *
 subst e
 have hz := MovU.lists (P := P) (X := B1) (R := B2 ++ R) (x := x) (by simpa using hv) e1 l1
 refine ⟨P, [x] ++ (B1 ++ B2), B1 ++ ([x] ++ B2), R, by simp, by rw [hz]; simp, e1, by simp at e2 e3 ⊢; omega, ?_, ?_⟩
 ·rw [← List.append_assoc, ← List.append_assoc]
  exact List.Perm.append_right B2 List.perm_append_comm
 ·have hp := List.pairwise_append.1 sB
  refine List.pairwise_append.2 ⟨hp.1, List.pairwise_cons.2 ⟨fun y hy => not_ltK (high y hy), hp.2.1⟩, fun u hu v hv => ?_⟩
  rcases List.mem_cons.1 hv with rfl | hv
  ·exact (low u hu).le
  ·exact hp.2.2 u hu v hv
/-- the right part has one element: it goes down to its place -/
theorem MrgS.one_right {α : Type} {K : α → List Int} {a m b i : Nat} {zs zs' : List α} {x : α} (h : MrgS K a m b zs) (hm : b = m + 1) (hx : zs[m]? = some x) (hb : Bis (UpToK K zs x) a m i i) (hv : MovD zs zs' m (m - i)) : MrgE K a b zs zs' := by
 obtain ⟨P, A, B, R, rfl, e1, e2, e3, sA, sB⟩ := h
 obtain ⟨x', rfl⟩ : ∃ x', B = [x'] := List.length_eq_one_iff.1 (by omega)
 rw [← List.append_assoc] at hx
 have h0 := get_mid (P := P ++ A) (Q := R) (x := x') (k := m) (by simp; omega)
 rw [List.singleton_append, h0] at hx
 cases hx
 have e : A = A.take (i - a) ++ A.drop (i - a) := (List.take_append_drop _ A).symm
 have hhi := hb.top
 have hlo := hb.ge
 have l1 : (A.take (i - a)).length = i - a := by rw [List.length_take]; omega
 have l2 : (A.drop (i - a)).length = m - i := by rw [List.length_drop]; omega
 have low : ∀ y ∈ A.take (i - a), ¬ ltK K x y := fun y hy => by
  obtain ⟨c, hc⟩ := List.mem_iff_getElem?.1 hy
  have hlt := (List.getElem?_eq_some_iff.1 hc).1
  rw [l1] at hlt
  rw [List.getElem?_take_of_lt hlt] at hc
  obtain ⟨z, hz, hl⟩ := hb.low (a + c) (by omega) (by omega)
  rw [List.getElem?_append_right (by omega), List.getElem?_append_left (by omega), show a + c - P.length = c from by omega, hc] at hz
  cases hz
  exact hl
 have high : ∀ y ∈ A.drop (i - a), ltK K x y := fun y hy => by
  obtain ⟨c, hc⟩ := List.mem_iff_getElem?.1 hy
  have hlt := (List.getElem?_eq_some_iff.1 hc).1
  rw [l2] at hlt
  rw [List.getElem?_drop] at hc
  apply Classical.byContradiction
  intro hl
  refine hb.high (i + c) (by omega) (by omega) ⟨y, ?_, hl⟩
  rw [List.getElem?_append_right (by omega), List.getElem?_append_left (by omega), show i + c - P.length = i - a + c from by omega, hc]
 generalize A.take (i - a) = A1 at *
 generalize A.drop (i - a) = A2 at *
 subst e
 have hz := MovD.lists (P := P ++ A1) (X := A2) (R := R) (x := x) (by simpa using hv) l2 (by simp; omega)
 refine ⟨P, (A1 ++ A2) ++ [x], A1 ++ (x :: A2), R, by simp, by rw [hz]; simp, e1, by simp at e2 e3 ⊢; omega, ?_, ?_⟩
 ·rw [List.append_assoc]
  exact List.Perm.append_left A1 (List.perm_append_comm (l₁ := [x]) (l₂ := A2))
 ·have hp := List.pairwise_append.1 sA
  refine List.pairwise_append.2 ⟨hp.1, List.pairwise_cons.2 ⟨fun y hy => (high y hy).le, hp.2.1⟩, fun u hu v hv => ?_⟩
  rcases List.mem_cons.1 hv with rfl | hv
  ·exact not_ltK (low u hu)
  ·exact hp.2.2 u hu v hv

/-- the test of the bisection in the middle: the element at c is not above its mirror's -/
def MirK {α : Type} (K : α → List Int) (zs : List α) (p c : Nat) : Prop := ∃ x y, zs[c]? = some x ∧ zs[p - c]? = some y ∧ ¬ ltK K y x
theorem MrgS.downMir {α : Type} {K : α → List Int} {a m b lo hi p : Nat} {zs : List α} (h : MrgS K a m b zs) (h1 : a ≤ lo) (h2 : hi ≤ m) (h3 : ∀ c, lo ≤ c → c < hi → m ≤ p - c ∧ p - c < b) : DownC (MirK K zs p) lo hi := fun c c' d1 d2 d3 ⟨x, y, hx, hy, hl⟩ => by
 have := h.len
 obtain ⟨x', hx'⟩ := get_some (zs := zs) (c := c') (by omega)
 have q1 := h3 c (by omega) d3
 have q2 := h3 c' d1 (by omega)
 obtain ⟨y', hy'⟩ := get_some (zs := zs) (c := p - c') (by omega)
 refine ⟨x', y', hx', hy', fun hc => hl ?_⟩
 exact ltK_of_lt_le (ltK_of_le_lt (h.right q1.1 (by omega) q2.2 hy hy') hc) (h.left (by omega) d2 (by omega) hx' hx)
/-- the four parts behind the bisection: start, and end = mid + m - start -/
structure Mrg4 {α : Type} (K : α → List Int) (a m b s e : Nat) (zs : List α) : Prop where
 ex : ∃ P A1 A2 B1 B2 R, zs = P ++ (A1 ++ (A2 ++ (B1 ++ (B2 ++ R)))) ∧ P.length = a ∧ a + A1.length = s ∧ s + A2.length = m ∧ m + B1.length = e ∧ e + B2.length = b ∧ SortK K A1 ∧ SortK K B1 ∧ SortK K A2 ∧ SortK K B2 ∧ ∀ u ∈ A1 ++ B1, ∀ v ∈ A2 ++ B2, leK K u v
theorem sort_last {α : Type} {K : α → List Int} {A : List α} {x : α} (h : SortK K (A ++ [x])) : ∀ u ∈ A ++ [x], leK K u x := fun u hu => by
 rcases List.mem_append.1 hu with hu | hu
 ·exact (List.pairwise_append.1 h).2.2 u hu x (by simp)
 ·simp at hu; subst hu; exact leK.refl K u
theorem MrgS.four {α : Type} {K : α → List Int} {a m b s : Nat} {zs : List α} (h : MrgS K a m b zs) (ham : a < m) (hmb : m < b)
  (hb : Bis (MirK K zs ((a + b) / 2 + m - 1)) (if (a + b) / 2 < m then (a + b) / 2 + m - b else a) (if (a + b) / 2 < m then (a + b) / 2 else m) s s) : Mrg4 K a m b s ((a + b) / 2 + m - s) zs := by
 obtain ⟨P, A, B, R, rfl, e1, e2, e3, sA, sB⟩ := h
 generalize hmid : (a + b) / 2 = mid at *
 have hs1 : a ≤ s ∧ s ≤ m ∧ s ≤ mid ∧ mid + m ≤ b + s := by
  have k1 := hb.ge
  have k2 := hb.top
  by_cases hc : mid < m
  ·rw [if_pos hc] at k1 k2; omega
  ·rw [if_neg hc] at k1 k2; omega
 have eA : A = A.take (s - a) ++ A.drop (s - a) := (List.take_append_drop _ A).symm
 have eB : B = B.take (mid - s) ++ B.drop (mid - s) := (List.take_append_drop _ B).symm
 have l1 : (A.take (s - a)).length = s - a := by rw [List.length_take]; omega
 have l2 : (A.drop (s - a)).length = m - s := by rw [List.length_drop]; omega
 have l3 : (B.take (mid - s)).length = mid - s := by rw [List.length_take]; omega
 have l4 : (B.drop (mid - s)).length = b - (mid + m - s) := by rw [List.length_drop]; omega
 generalize A.take (s - a) = A1 at *
 generalize A.drop (s - a) = A2 at *
 generalize B.take (mid - s) = B1 at *
 generalize B.drop (mid - s) = B2 at *
 subst eA eB
 have pA := List.pairwise_append.1 sA
 have pB := List.pairwise_append.1 sB
 have hlow := hb.low
 have hhigh := hb.high
 have gA1 : ∀ c x, A1[c]? = some x → (P ++ (A1 ++ A2 ++ (B1 ++ B2 ++ R)))[a + c]? = some x := fun c x h => by
  have hlt := (List.getElem?_eq_some_iff.1 h).1
  rw [List.getElem?_append_right (by omega), List.getElem?_append_left (by simp; omega), List.getElem?_append_left (by omega), show a + c - P.length = c from by omega, h]
 have gA2 : ∀ c x, A2[c]? = some x → (P ++ (A1 ++ A2 ++ (B1 ++ B2 ++ R)))[s + c]? = some x := fun c x h => by
  have hlt := (List.getElem?_eq_some_iff.1 h).1
  rw [List.getElem?_append_right (by omega), List.getElem?_append_left (by simp; omega), List.getElem?_append_right (by omega), show s + c - P.length - A1.length = c from by omega, h]
 have gB1 : ∀ c x, B1[c]? = some x → (P ++ (A1 ++ A2 ++ (B1 ++ B2 ++ R)))[m + c]? = some x := fun c x h => by
  have hlt := (List.getElem?_eq_some_iff.1 h).1
  rw [List.getElem?_append_right (by omega), List.getElem?_append_right (by simp; omega), List.getElem?_append_left (by simp; omega), List.getElem?_append_left (by simp; omega), show m + c - P.length - (A1 ++ A2).length = c from by simp; omega, h]
 have gB2 : ∀ c x, B2[c]? = some x → (P ++ (A1 ++ A2 ++ (B1 ++ B2 ++ R)))[mid + m - s + c]? = some x := fun c x h => by
  have hlt := (List.getElem?_eq_some_iff.1 h).1
  rw [List.getElem?_append_right (by omega), List.getElem?_append_right (by simp; omega), List.getElem?_append_left (by simp; omega), List.getElem?_append_right (by simp; omega), show mid + m - s + c - P.length - (A1 ++ A2).length - B1.length = c from by simp; omega, h]
 refine ⟨P, A1, A2, B1, B2, R, by simp, e1, by omega, by omega, by omega, by omega, pA.1, pB.1, pA.2.1, pB.2.1, fun u hu v hv => ?_⟩
 rcases List.mem_append.1 hu with hu | hu
 ·rcases List.mem_append.1 hv with hv | hv
  ·exact pA.2.2 u hu v hv
  ·-- A1 before B2
   rcases List.eq_nil_or_concat A1 with rfl | ⟨A', x, rfl⟩
   ·cases hu
   cases B2 with
   | nil => cases hv
   | cons y B' =>
    rw [List.concat_eq_append] at *
    simp only [List.length_append, List.length_cons, List.length_nil] at l1 l4
    have hlo : (if mid < m then mid + m - b else a) ≤ s - 1 := by split <;> omega
    obtain ⟨x1, y1, hx1, hy1, hn⟩ := hlow (s - 1) hlo (by omega)
    have g1 := gA1 A'.length x (by rw [List.getElem?_append_right (Nat.le_refl _), Nat.sub_self]; rfl)
    have g2 := gB2 0 y rfl
    rw [show a + A'.length = s - 1 from by omega, hx1] at g1
    rw [show mid + m - s + 0 = mid + m - 1 - (s - 1) from by omega, hy1] at g2
    cases g1
    cases g2
    have k1 := sort_last pA.1 u hu
    have k2 : leK K y v := by
     rcases List.mem_cons.1 hv with rfl | hv
     ·exact leK.refl K v
     ·exact (List.pairwise_cons.1 pB.2.1).1 v hv
    exact (k1.trans (not_ltK hn)).trans k2
 ·rcases List.mem_append.1 hv with hv | hv
  ·-- B1 before A2
   rcases List.eq_nil_or_concat B1 with rfl | ⟨B', y, rfl⟩
   ·cases hu
   cases A2 with
   | nil => cases hv
   | cons x A' =>
    rw [List.concat_eq_append] at *
    simp only [List.length_append, List.length_cons, List.length_nil] at l2 l3
    have hhi : s < (if mid < m then mid else m) := by split <;> omega
    have hn := hhigh s (Nat.le_refl _) hhi
    have g1 := gA2 0 x rfl
    have g2 := gB1 B'.length y (by rw [List.getElem?_append_right (Nat.le_refl _), Nat.sub_self]; rfl)
    rw [Nat.add_zero] at g1
    rw [show m + B'.length = mid + m - 1 - s from by omega] at g2
    have hl : ltK K y x := Classical.byContradiction fun hc => hn ⟨x, y, g1, g2, hc⟩
    have k1 := sort_last pB.1 u hu
    have k2 : leK K x v := by
     rcases List.mem_cons.1 hv with rfl | hv
     ·exact leK.refl K v
     ·exact (List.pairwise_cons.1 pA.2.1).1 v hv
    exact (k1.trans hl.le).trans k2
  ·exact pB.2.2 u hu v hv
/-- behind the rotation -/
structure Mrg5 {α : Type} (K : α → List Int) (a s mid e b : Nat) (zs0 zs : List α) : Prop where
 ex : ∃ P A1 A2 B1 B2 R, zs0 = P ++ (A1 ++ (A2 ++ (B1 ++ (B2 ++ R)))) ∧ zs = P ++ ((A1 ++ B1) ++ ((A2 ++ B2) ++ R)) ∧ P.length = a ∧ a + A1.length = s ∧ s + B1.length = mid ∧ mid + A2.length = e ∧ e + B2.length = b ∧ SortK K A1 ∧ SortK K B1 ∧ SortK K A2 ∧ SortK K B2 ∧ ∀ u ∈ A1 ++ B1, ∀ v ∈ A2 ++ B2, leK K u v
theorem Mrg4.rot {α : Type} {K : α → List Int} {a m b s e mid : Nat} {zs : List α} (h : Mrg4 K a m b s e zs) (hm : s + e = mid + m) : ∃ Z, Mrg5 K a s mid e b zs Z ∧ RotAt m (m - s) (e - m) zs Z ∧ (s = m ∨ m = e → Z = zs) := by
 obtain ⟨P, A1, A2, B1, B2, R, rfl, e1, e2, e3, e4, e5, s1, s2, s3, s4, hle⟩ := h
 refine ⟨_, ⟨P, A1, A2, B1, B2, R, rfl, rfl, e1, e2, by omega, by omega, e5, s1, s2, s3, s4, hle⟩, ⟨P ++ A1, A2, B1, B2 ++ R, by simp, by simp, by simp; omega, by omega, by omega⟩, fun hc => ?_⟩
 rcases hc with hc | hc
 ·obtain rfl : A2 = [] := List.length_eq_zero_iff.1 (by omega)
  simp
 ·obtain rfl : B1 = [] := List.length_eq_zero_iff.1 (by omega)
  simp
theorem Mrg5.first {α : Type} {K : α → List Int} {a s mid e b : Nat} {zs0 zs : List α} (h : Mrg5 K a s mid e b zs0 zs) : MrgS K a s mid zs := by
 obtain ⟨P, A1, A2, B1, B2, R, rfl, rfl, e1, e2, e3, e4, e5, s1, s2, s3, s4, hle⟩ := h
 exact ⟨P, A1, B1, (A2 ++ B2) ++ R, by simp, e1, e2, e3, s1, s2⟩
/-- behind the first part -/
structure Mrg6 {α : Type} (K : α → List Int) (a mid e b : Nat) (zs0 zs : List α) : Prop where
 ex : ∃ P C A2 B2 Z0 R, zs0 = P ++ (Z0 ++ R) ∧ zs = P ++ (C ++ ((A2 ++ B2) ++ R)) ∧ (C ++ (A2 ++ B2)).Perm Z0 ∧ P.length = a ∧ a + C.length = mid ∧ mid + A2.length = e ∧ e + B2.length = b ∧ SortK K C ∧ SortK K A2 ∧ SortK K B2 ∧ ∀ u ∈ C, ∀ v ∈ A2 ++ B2, leK K u v
theorem perm4 {α : Type} (A1 A2 B1 B2 : List α) : ((A1 ++ B1) ++ (A2 ++ B2)).Perm (A1 ++ (A2 ++ (B1 ++ B2))) := by
 rw [List.append_assoc]
 refine List.Perm.append_left A1 ?_
 rw [← List.append_assoc, ← List.append_assoc]
 exact List.Perm.append_right B2 List.perm_append_comm
theorem app_inj {α : Type} {P Q X Y : List α} (h : P ++ X = Q ++ Y) (hl : P.length = Q.length) : P = Q ∧ X = Y := List.append_inj h hl
theorem Mrg5.to6 {α : Type} {K : α → List Int} {a s mid e b : Nat} {zs0 zs zs' : List α} (h : Mrg5 K a s mid e b zs0 zs) (h2 : MrgE K a mid zs zs') : Mrg6 K a mid e b zs0 zs' := by
 obtain ⟨P, A1, A2, B1, B2, R, rfl, rfl, e1, e2, e3, e4, e5, s1, s2, s3, s4, hle⟩ := h
 obtain ⟨Q, C, D, S, f1, rfl, f2, f3, f4, f5⟩ := h2
 obtain ⟨rfl, f6⟩ := app_inj f1 (by omega)
 obtain ⟨rfl, rfl⟩ := app_inj f6 (by simp; omega)
 refine ⟨P, D, A2, B2, A1 ++ (A2 ++ (B1 ++ B2)), R, by simp, rfl, (List.Perm.append_right _ f4).trans (perm4 A1 A2 B1 B2), e1, by rw [f4.length_eq]; exact f3, e4, e5, f5, s3, s4, fun u hu v hv => hle u (f4.mem_iff.1 hu) v hv⟩
theorem Mrg5.skip {α : Type} {K : α → List Int} {a s mid e b : Nat} {zs0 zs : List α} (h : Mrg5 K a s mid e b zs0 zs) (hs : s = a ∨ s = mid) : Mrg6 K a mid e b zs0 zs := by
 refine h.to6 ?_
 obtain ⟨P, A1, A2, B1, B2, R, rfl, rfl, e1, e2, e3, e4, e5, s1, s2, s3, s4, hle⟩ := h
 refine ⟨P, A1 ++ B1, A1 ++ B1, (A2 ++ B2) ++ R, rfl, rfl, e1, by simp; omega, List.Perm.refl _, ?_⟩
 rcases hs with hs | hs
 ·obtain rfl : A1 = [] := List.length_eq_zero_iff.1 (by omega)
  simpa using s2
 ·obtain rfl : B1 = [] := List.length_eq_zero_iff.1 (by omega)
  simpa using s1
theorem Mrg6.second {α : Type} {K : α → List Int} {a mid e b : Nat} {zs0 zs : List α} (h : Mrg6 K a mid e b zs0 zs) : MrgS K mid e b zs := by
 obtain ⟨P, C, A2, B2, Z0, R, rfl, rfl, hp, e1, e2, e3, e4, s1, s2, s3, hle⟩ := h
 exact ⟨P ++ C, A2, B2, R, by simp, by simp; omega, e3, e4, s2, s3⟩
theorem Mrg6.done {α : Type} {K : α → List Int} {a mid e b : Nat} {zs0 zs zs' : List α} (h : Mrg6 K a mid e b zs0 zs) (h2 : MrgE K mid b zs zs') : MrgE K a b zs0 zs' := by
 obtain ⟨P, C, A2, B2, Z0, R, rfl, rfl, hp, e1, e2, e3, e4, s1, s2, s3, hle⟩ := h
 obtain ⟨Q, X, D, S, f1, rfl, f2, f3, f4, f5⟩ := h2
 rw [← List.append_assoc] at f1
 obtain ⟨rfl, f6⟩ := app_inj f1 (by simp; omega)
 obtain ⟨rfl, rfl⟩ := app_inj f6 (by simp; omega)
 refine ⟨P, Z0, C ++ D, R, rfl, by simp, e1, ?_, (List.Perm.append_left C f4).trans hp, List.pairwise_append.2 ⟨s1, f5, fun u hu v hv => hle u hu v (f4.mem_iff.1 hv)⟩⟩
 have := hp.length_eq
 simp at this ⊢
 omega
theorem Mrg6.skip {α : Type} {K : α → List Int} {a mid e b : Nat} {zs0 zs : List α} (h : Mrg6 K a mid e b zs0 zs) (hs : e = mid ∨ e = b) : MrgE K a b zs0 zs := by
 refine h.done ?_
 obtain ⟨P, C, A2, B2, Z0, R, rfl, rfl, hp, e1, e2, e3, e4, s1, s2, s3, hle⟩ := h
 refine ⟨P ++ C, A2 ++ B2, A2 ++ B2, R, by simp, by simp, by simp; omega, by simp; omega, List.Perm.refl _, ?_⟩
 rcases hs with hs | hs
 ·obtain rfl : A2 = [] := List.length_eq_zero_iff.1 (by omega)
  simpa using s3
 ·obtain rfl : B2 = [] := List.length_eq_zero_iff.1 (by omega)
  simpa using s2
end Go.Proofs.YthlkcppbljpooaaGreatDoor
/- Sorting by blocks that are merged two by two, in plain words. -/
namespace Go.Proofs.YthlkcppbljpooaaGreatDoor

theorem mrgS_of {α : Type} {K : α → List Int} {a m b : Nat} {zs : List α} (h1 : a ≤ m) (h2 : m ≤ b) (h3 : b ≤ zs.length)
  (hA : ∀ (i j : Nat) (x y : α), a ≤ i → i < j → j < m → zs[i]? = some x → zs[j]? = some y → leK K x y) (hB : ∀ (i j : Nat) (x y : α), m ≤ i → i < j → j < b → zs[i]? = some x → zs[j]? = some y → leK K x y) : MrgS K a m b zs := by
 refine ⟨zs.take a, (zs.take m).drop a, (zs.take b).drop m, zs.drop b, ?_, by rw [List.length_take]; omega, by simp; omega, by simp; omega, ?_, ?_⟩
 ·have e1 : zs.take m = zs.take a ++ (zs.take m).drop a := by
   conv => lhs; rw [← List.take_append_drop a (zs.take m)]
   rw [List.take_take, Nat.min_eq_left h1]
  have e2 : zs.take b = zs.take m ++ (zs.take b).drop m := by
   conv => lhs; rw [← List.take_append_drop m (zs.take b)]
   rw [List.take_take, Nat.min_eq_left h2]
  rw [← List.append_assoc, ← e1, ← List.append_assoc, ← e2, List.take_append_drop]
 ·refine List.pairwise_iff_getElem.2 fun i j hi hj hij => ?_
  simp only [List.length_drop, List.length_take] at hi hj
  refine hA (a + i) (a + j) _ _ (by omega) (by omega) (by omega) ?_ ?_ <;> (rw [List.getElem_drop, List.getElem_take]; exact List.getElem?_eq_getElem (by omega))
 ·refine List.pairwise_iff_getElem.2 fun i j hi hj hij => ?_
  simp only [List.length_drop, List.length_take] at hi hj
  refine hB (m + i) (m + j) _ _ (by omega) (by omega) (by omega) ?_ ?_ <;> (rw [List.getElem_drop, List.getElem_take]; exact List.getElem?_eq_getElem (by omega))
theorem MrgE.out {α : Type} {K : α → List Int} {a b : Nat} {zs zs' : List α} (h : MrgE K a b zs zs') (k : Nat) (hk : k < a ∨ b ≤ k) : zs'[k]? = zs[k]? := by
 obtain ⟨P, C, D, R, rfl, rfl, h1, h2, hp, -⟩ := h
 have := hp.length_eq
 rcases hk with hk | hk
 ·rw [List.getElem?_append_left (by omega), List.getElem?_append_left (by omega)]
 ·rw [List.getElem?_append_right (by omega), List.getElem?_append_right (by omega), List.getElem?_append_right (by omega), List.getElem?_append_right (by omega), this]
theorem MrgE.inn {α : Type} {K : α → List Int} {a b : Nat} {zs zs' : List α} (h : MrgE K a b zs zs') {i j : Nat} {x y : α} (h1 : a ≤ i) (h2 : i < j) (h3 : j < b) (hx : zs'[i]? = some x) (hy : zs'[j]? = some y) : leK K x y := by
 obtain ⟨P, C, D, R, rfl, rfl, e1, e2, hp, hs⟩ := h
 have := hp.length_eq
 rw [List.getElem?_append_right (by omega), List.getElem?_append_left (by omega)] at hx hy
 exact sort_get hs (by omega) hx hy
theorem MrgE.length {α : Type} {K : α → List Int} {a b : Nat} {zs zs' : List α} (h : MrgE K a b zs zs') : zs'.length = zs.length := h.perm.length_eq
/-- an insertion sort of a segment -/
theorem mrgE_of {α : Type} {K : α → List Int} {a b : Nat} {xs zs : List α} (hab : a ≤ b) (hb : b ≤ xs.length) (hp : zs.Perm xs) (h1 : zs.take a = xs.take a) (h2 : zs.drop b = xs.drop b) (hs : SegS K a b zs) : MrgE K a b xs zs := by
 obtain ⟨P, A, R, rfl, e1, e2, e3⟩ := hs
 have hP : P = xs.take a := by rw [← h1]; simp [← e1]
 have hR : R = xs.drop b := by
  rw [← h2, ← List.append_assoc, List.drop_append_of_le_length (by simp; omega), List.drop_of_length_le (by simp; omega)]
  rfl
 have e : xs = P ++ ((xs.take b).drop a ++ R) := by
  rw [hP, hR]
  have e1 : xs.take b = xs.take a ++ (xs.take b).drop a := by
   conv => lhs; rw [← List.take_append_drop a (xs.take b)]
   rw [List.take_take, Nat.min_eq_left hab]
  rw [← List.append_assoc, ← e1, List.take_append_drop]
 refine ⟨P, (xs.take b).drop a, A, R, e, rfl, e1, by simp; omega, ?_, e3⟩
 rw [e] at hp
 exact (List.perm_append_right_iff R).1 ((List.perm_append_left_iff P).1 hp)

/-- blocks of t are sorted up to a, those of s from a on -/
structure BlkP {α : Type} (K : α → List Int) (s t q : Nat) (zs : List α) : Prop where
 done : ∀ (i j : Nat) (x y : α), i < j → j < q * t → i / t = j / t → zs[i]? = some x → zs[j]? = some y → leK K x y
 rest : ∀ (i j : Nat) (x y : α), q * t ≤ i → i < j → i / s = j / s → zs[i]? = some x → zs[j]? = some y → leK K x y
def BlkS {α : Type} (K : α → List Int) (s : Nat) (zs : List α) : Prop := ∀ (i j : Nat) (x y : α), i < j → i / s = j / s → zs[i]? = some x → zs[j]? = some y → leK K x y
theorem BlkS.one {α : Type} (K : α → List Int) (zs : List α) : BlkS K 1 zs := fun i j x y h1 h2 => by
 rw [Nat.div_one, Nat.div_one] at h2
 omega
theorem BlkS.start {α : Type} {K : α → List Int} {s : Nat} {zs : List α} (h : BlkS K s zs) (t : Nat) : BlkP K s t 0 zs := ⟨fun i j x y h1 h2 => by omega, fun i j x y _ h2 h3 => h i j x y h2 h3⟩
theorem BlkS.whole {α : Type} {K : α → List Int} {s : Nat} {zs : List α} (h : BlkS K s zs) (hs : zs.length ≤ s) : SortK K zs := by
 refine List.pairwise_iff_getElem.2 fun i j hi hj hij => ?_
 exact h i j _ _ hij (by rw [Nat.div_eq_of_lt (by omega), Nat.div_eq_of_lt (by omega)]) (List.getElem?_eq_getElem hi) (List.getElem?_eq_getElem hj)
theorem BlkP.step {α : Type} {K : α → List Int} {s t q : Nat} {zs zs' : List α} (h : BlkP K s t q zs) (ht : 0 < t) (hm : MrgE K (q * t) (q * t + t) zs zs') : BlkP K s t (q + 1) zs' := by
 have e : (q + 1) * t = q * t + t := by rw [Nat.add_mul, Nat.one_mul]
 refine ⟨fun i j x y h1 h2 h3 hx hy => ?_, fun i j x y h1 h2 h3 hx hy => ?_⟩
 ·rw [e] at h2
  by_cases k1 : j < q * t
  ·rw [hm.out _ (by omega)] at hx hy
   exact h.done i j x y h1 k1 h3 hx hy
  ·by_cases k2 : q * t ≤ i
   ·exact hm.inn k2 h1 h2 hx hy
   ·have d1 : i / t < q := (Nat.div_lt_iff_lt_mul ht).2 (by omega)
    have d2 : q ≤ j / t := (Nat.le_div_iff_mul_le ht).2 (by omega)
    omega
 ·rw [e] at h1
  rw [hm.out _ (by omega)] at hx hy
  exact h.rest i j x y (by omega) h2 h3 hx hy
theorem BlkP.last {α : Type} {K : α → List Int} {s t q : Nat} {zs zs' : List α} (h : BlkP K s t q zs) (ht : 0 < t) (hm : MrgE K (q * t) zs.length zs zs') : BlkS K t zs' := fun i j x y k1 k2 hx hy => by
 have hj := (List.getElem?_eq_some_iff.1 hy).1
 rw [hm.length] at hj
 by_cases k3 : j < q * t
 ·rw [hm.out _ (by omega)] at hx hy
  exact h.done i j x y k1 k3 k2 hx hy
 ·by_cases k4 : q * t ≤ i
  ·exact hm.inn k4 k1 hj hx hy
  ·have d1 : i / t < q := (Nat.div_lt_iff_lt_mul ht).2 (by omega)
   have d2 : q ≤ j / t := (Nat.le_div_iff_mul_le ht).2 (by omega)
   omega
theorem div_block {s q i : Nat} (hs : 0 < s) (h1 : q * s ≤ i) (h2 : i < q * s + s) : i / s = q := by
 apply Nat.le_antisymm
 ·refine Nat.lt_succ_iff.1 ((Nat.div_lt_iff_lt_mul hs).2 ?_)
  rw [Nat.succ_mul]; exact h2
 ·exact (Nat.le_div_iff_mul_le hs).2 h1
theorem BlkP.skip {α : Type} {K : α → List Int} {s q : Nat} {zs : List α} (h : BlkP K s (2 * s) q zs) (hs : 0 < s) (h1 : zs.length ≤ q * (2 * s) + s) : BlkS K (2 * s) zs := by
 intro i j x y k1 k2 hx hy
 have hj := (List.getElem?_eq_some_iff.1 hy).1
 by_cases k3 : j < q * (2 * s)
 ·exact h.done i j x y k1 k3 k2 hx hy
 ·by_cases k4 : q * (2 * s) ≤ i
  ·have e : (2 * q) * s = q * (2 * s) := by rw [Nat.mul_comm 2 q, Nat.mul_assoc]
   exact h.rest i j x y k4 k1 (by rw [div_block (q := 2 * q) hs (by omega) (by omega), div_block (q := 2 * q) hs (by omega) (by omega)]) hx hy
  ·have d1 : i / (2 * s) < q := (Nat.div_lt_iff_lt_mul (by omega)).2 (by omega)
   have d2 : q ≤ j / (2 * s) := (Nat.le_div_iff_mul_le (by omega)).2 (by omega)
   omega
/-- two blocks of s that are to be merged -/
theorem BlkP.two {α : Type} {K : α → List Int} {s q b : Nat} {zs : List α} (h : BlkP K s (2 * s) q zs) (hs : 0 < s) (h1 : q * (2 * s) + s ≤ b) (h2 : b ≤ q * (2 * s) + 2 * s) (h3 : b ≤ zs.length) : MrgS K (q * (2 * s)) (q * (2 * s) + s) b zs := by
 have e : (2 * q) * s = q * (2 * s) := by rw [Nat.mul_comm 2 q, Nat.mul_assoc]
 have e2 : (2 * q + 1) * s = q * (2 * s) + s := by rw [Nat.add_mul, e, Nat.one_mul]
 refine mrgS_of (by omega) h1 h3 (fun i j x y k1 k2 k3 hx hy => ?_) (fun i j x y k1 k2 k3 hx hy => ?_)
 ·exact h.rest i j x y k1 k2 (by rw [div_block (q := 2 * q) hs (by omega) (by omega), div_block (q := 2 * q) hs (by omega) (by omega)]) hx hy
 ·exact h.rest i j x y (by omega) k2 (by rw [div_block (q := 2 * q + 1) hs (by omega) (by omega), div_block (q := 2 * q + 1) hs (by omega) (by omega)]) hx hy
end Go.Proofs.YthlkcppbljpooaaGreatDoor
/- slices.swapRangeCmpFunc and slices.rotateCmpFunc at lists of integers: contracts. -/
namespace Go.Proofs.YthlkcppbljpooaaGreatDoor
open Go.RowKit

theorem SwpR.mem {α : Type} {z0 zs : List α} {a b i : Nat} (h : SwpR z0 zs a b i) {x : α} (hx : x ∈ zs) : x ∈ z0 := by
 obtain ⟨k, hk⟩ := List.getElem?_of_mem hx
 rw [h k] at hk
 split at hk
 ·exact List.mem_of_getElem? hk
 ·split at hk
  ·exact List.mem_of_getElem? hk
  ·exact List.mem_of_getElem? hk
theorem MovU.mem {α : Type} {z0 zs : List α} {a t : Nat} (h : MovU z0 zs a t) {x : α} (hx : x ∈ zs) : x ∈ z0 := by
 obtain ⟨k, hk⟩ := List.getElem?_of_mem hx
 rw [h k] at hk
 split at hk
 ·exact List.mem_of_getElem? hk
 ·split at hk
  ·exact List.mem_of_getElem? hk
  ·exact List.mem_of_getElem? hk
theorem MovD.mem {α : Type} {z0 zs : List α} {m t : Nat} (h : MovD z0 zs m t) {x : α} (hx : x ∈ zs) : x ∈ z0 := by
 obtain ⟨k, hk⟩ := List.getElem?_of_mem hx
 rw [h k] at hk
 split at hk
 ·exact List.mem_of_getElem? hk
 ·split at hk
  ·exact List.mem_of_getElem? hk
  ·exact List.mem_of_getElem? hk
theorem RotAt.len {α : Type} {m i j : Nat} {zs Z : List α} (h : RotAt m i j zs Z) : i ≤ m ∧ m + j ≤ zs.length := by
 obtain ⟨L, A, B, R, rfl, rfl, h1, h2, h3⟩ := h
 simp
 omega
end Go.Proofs.YthlkcppbljpooaaGreatDoor
/- slices.symMergeCmpFunc at lists of integers: where one part has one element. -/
namespace Go.Proofs.YthlkcppbljpooaaGreatDoor
open Go.RowKit

end Go.Proofs.YthlkcppbljpooaaGreatDoor
