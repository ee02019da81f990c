/- Lemmas and contracts, each under its own condition: Two sorted lists as one, in plain words. Make in plain words: what is returned depends on the cells, not on their order. Cells behind cells that a call has made. (printed by mgc.py) The reference's merged: two sorted lists of cells as one. (printed by mgc.py) The reference's Sorted. (printed by mgd.py) -/
import Derived.Deep.AppendLies
import Derived.Deep.Upon
import Derived.Lib.SliceRun
import Derived.Lib.AppendZeros
import Derived.BigQuiet
import Derived.IntWalk
import Derived.Deep.RegionHeld3
import Derived.Deep.DeepCutAuto
import Derived.Deep.CutBlock
import Derived.Test.YthlkcppbljpooaaGreatDoorS13
import Derived.Test.YthlkcppbljpooaaGreatDoorS4
import Derived.Test.YthlkcppbljpooaaGreatDoorS44
import Derived.Test.YthlkcppbljpooaaGreatDoorS58
import Derived.Test.YthlkcppbljpooaaGreatDoorS60
import Derived.Test.YthlkcppbljpooaaGreatDoorS7
/- Two sorted lists as one, in plain words. -/
namespace Go.Proofs.YthlkcppbljpooaaGreatDoor

/-- D is done, X and Y are left of A and B -/
structure MgAt {α : Type} (K : α → List Int) (A B D X Y : List α) : Prop where
 perm : (D ++ (X ++ Y)).Perm (A ++ B)
 sD : SortK K D
 sX : SortK K X
 sY : SortK K Y
 le : ∀ u ∈ D, ∀ v ∈ X ++ Y, leK K u v
theorem MgAt.start {α : Type} {K : α → List Int} {A B : List α} (hA : SortK K A) (hB : SortK K B) : MgAt K A B [] A B :=
 ⟨List.Perm.refl _, List.Pairwise.nil, hA, hB, fun u hu => by cases hu⟩
theorem sort_snoc {α : Type} {K : α → List Int} {D : List α} {x : α} (h : SortK K D) (hx : ∀ u ∈ D, leK K u x) : SortK K (D ++ [x]) :=
 List.pairwise_append.2 ⟨h, List.pairwise_singleton _ _, fun u hu v hv => by simp at hv; subst hv; exact hx u hu⟩
theorem MgAt.right {α : Type} {K : α → List Int} {A B D X Y : List α} {x y : α} (h : MgAt K A B D (x :: X) (y :: Y)) (hl : ltK K y x) : MgAt K A B (D ++ [y]) (x :: X) Y := by
 have hx := List.pairwise_cons.1 h.sX
 have hy := List.pairwise_cons.1 h.sY
 refine ⟨?_, sort_snoc h.sD fun u hu => h.le u hu y (by simp), h.sX, hy.2, fun u hu v hv => ?_⟩
 ·refine List.Perm.trans ?_ h.perm
  rw [List.append_assoc]
  refine List.Perm.append_left D ?_
  rw [List.singleton_append]
  exact List.perm_middle.symm
 ·rcases List.mem_append.1 hu with hu | hu
  ·exact h.le u hu v (by
    rcases List.mem_append.1 hv with hv | hv
    ·exact List.mem_append_left _ hv
    ·exact List.mem_append_right _ (List.mem_cons_of_mem _ hv))
  ·simp at hu
   subst hu
   rcases List.mem_append.1 hv with hv | hv
   ·rcases List.mem_cons.1 hv with rfl | hv
    ·exact hl.le
    ·exact hl.le.trans (hx.1 v hv)
   ·exact hy.1 v hv
theorem MgAt.left {α : Type} {K : α → List Int} {A B D X Y : List α} {x y : α} (h : MgAt K A B D (x :: X) (y :: Y)) (hl : ¬ ltK K y x) : MgAt K A B (D ++ [x]) X (y :: Y) := by
 have hx := List.pairwise_cons.1 h.sX
 have hy := List.pairwise_cons.1 h.sY
 refine ⟨?_, sort_snoc h.sD fun u hu => h.le u hu x (by simp), hx.2, h.sY, fun u hu v hv => ?_⟩
 ·refine List.Perm.trans ?_ h.perm
  rw [List.append_assoc]
  exact List.Perm.refl _
 ·rcases List.mem_append.1 hu with hu | hu
  ·exact h.le u hu v (by
    rcases List.mem_append.1 hv with hv | hv
    ·exact List.mem_append_left _ (List.mem_cons_of_mem _ hv)
    ·exact List.mem_append_right _ hv)
  ·simp at hu
   subst hu
   rcases List.mem_append.1 hv with hv | hv
   ·exact hx.1 v hv
   ·rcases List.mem_cons.1 hv with rfl | hv
    ·exact not_ltK hl
    ·exact (not_ltK hl).trans (hy.1 v hv)
theorem MgAt.done {α : Type} {K : α → List Int} {A B D X Y : List α} (h : MgAt K A B D X Y) (he : X = [] ∨ Y = []) : (D ++ X ++ Y).Perm (A ++ B) ∧ SortK K (D ++ X ++ Y) := by
 refine ⟨by rw [List.append_assoc]; exact h.perm, ?_⟩
 rw [List.append_assoc]
 refine List.pairwise_append.2 ⟨h.sD, ?_, fun u hu v hv => h.le u hu v hv⟩
 rcases he with rfl | rfl
 ·simpa using h.sY
 ·simpa using h.sX
end Go.Proofs.YthlkcppbljpooaaGreatDoor
/- Make in plain words: what is returned depends on the cells, not on their order. -/
namespace Go.Proofs.YthlkcppbljpooaaGreatDoor

def firstE (d : List DimT) (a : List AttrT) : List CellT → Int
 | [] => 0
 | c :: r => if cellE d a c ≠ 0 then cellE d a c else firstE d a r
theorem firstE_drop {d : List DimT} {a : List AttrT} {l : List CellT} {i : Nat} {c : CellT} (h : l[i]? = some c) : firstE d a (l.drop i) = if cellE d a c ≠ 0 then cellE d a c else firstE d a (l.drop (i + 1)) := by
 rw [drop_cons h, firstE]
theorem firstE_zero {d : List DimT} {a : List AttrT} : ∀ {l : List CellT}, firstE d a l = 0 ↔ ∀ c ∈ l, cellE d a c = 0
 | [] => by simp [firstE]
 | c :: r => by
  rw [firstE]
  by_cases h : cellE d a c = 0
  ·rw [if_neg (by simpa using h), firstE_zero (l := r)]
   simp [h]
  ·rw [if_pos h]
   constructor
   ·intro h2; exact absurd h2 h
   ·intro h2; exact h2 c (by simp)
/-- two neighbors have the same coordinates -/
def dupC : List CellT → Bool
 | x :: y :: r => decide (x.co = y.co) || dupC (y :: r)
 | _ => false
theorem dupC_drop {l : List CellT} {i : Nat} {x y : CellT} (h1 : l[i]? = some x) (h2 : l[i + 1]? = some y) : dupC (l.drop i) = (decide (x.co = y.co) || dupC (l.drop (i + 1))) := by
 rw [drop_cons h1, drop_cons h2, dupC]
theorem dupC_end {l : List CellT} {i : Nat} (h : l.length ≤ i + 1) : dupC (l.drop i) = false := by
 have hl : (l.drop i).length ≤ 1 := by rw [List.length_drop]; omega
 match l.drop i, hl with
 | [], _ => rfl
 | [x], _ => rfl
 | _ :: _ :: _, h => simp at h
theorem dup_iff : ∀ {l : List CellT}, SortK CellT.co l → (dupC l = false ↔ (l.map CellT.co).Nodup)
 | [], _ => by simp [dupC]
 | [x], _ => by simp [dupC]
 | x :: y :: r, h => by
  have hp := List.pairwise_cons.1 h
  have ih := dup_iff hp.2
  have e9 : ((x :: y :: r).map CellT.co).Nodup ↔ x.co ∉ (y :: r).map CellT.co ∧ ((y :: r).map CellT.co).Nodup := List.nodup_cons
  rw [dupC, Bool.or_eq_false_iff, decide_eq_false_iff_not, ih, e9]
  constructor
  ·rintro ⟨h1, h2⟩
   refine ⟨fun hm => ?_, h2⟩
   obtain ⟨z, hz, he⟩ := List.mem_map.1 hm
   have hxy := hp.1 y (by simp)
   have hyz : leK CellT.co y z := by
    rcases List.mem_cons.1 hz with rfl | hz
    ·intro e
     rw [cmpI_self] at e
     cases e
    ·exact (List.pairwise_cons.1 hp.2).1 z hz
   have hzx : leK CellT.co z x := by
    unfold leK
    rw [he, cmpI_self]; decide
   exact h1 (leK.antisymm hxy (hyz.trans hzx))
  ·rintro ⟨h1, h2⟩
   exact ⟨fun e => h1 (by rw [e]; simp), h2⟩
theorem dup_perm {l l' : List CellT} (h1 : SortK CellT.co l) (h2 : SortK CellT.co l') (hp : l.Perm l') : dupC l = dupC l' := by
 have e : dupC l = false ↔ dupC l' = false := (dup_iff h1).trans ((hp.map CellT.co).nodup_iff.trans (dup_iff h2).symm)
 cases h : dupC l with
 | false => exact (e.1 h).symm
 | true =>
  cases h' : dupC l' with
  | true => rfl
  | false => rw [e.2 h'] at h; cases h
theorem sorted_same {l l' : List CellT} (h1 : SortK CellT.co l) (h2 : SortK CellT.co l') (hp : l.Perm l') (hd : dupC l = false) : l = l' :=
 sortK_unique hp h1 h2 fun x hx y hy he => by
  have hn := (dup_iff h1).1 hd
  obtain ⟨i, hi, ei⟩ := List.getElem_of_mem hx
  obtain ⟨j, hj, ej⟩ := List.getElem_of_mem hy
  have hij : i = j := by
   have := (List.getElem_inj (h₀ := by simpa using hi) (h₁ := by simpa using hj) hn).1 (by simp [ei, ej, he])
   exact this
  subst hij
  rw [← ei, ← ej]
def makeE (d : List DimT) (a : List AttrT) (l S : List CellT) : Int :=
 if schemaE d a ≠ 0 then schemaE d a else if 4096 < l.length then 9 else if firstE d a l ≠ 0 then firstE d a l else if dupC S = true then 5 else 0
def makeQ (d : List DimT) (a : List AttrT) (l S : List CellT) : ArrT := if makeE d a l S = 0 then ⟨d, a, S⟩ else ⟨[], [], []⟩
theorem makeE_zero {d : List DimT} {a : List AttrT} {l S : List CellT} : makeE d a l S = 0 ↔ schemaE d a = 0 ∧ l.length ≤ 4096 ∧ (∀ c ∈ l, cellE d a c = 0) ∧ dupC S = false := by
 unfold makeE
 by_cases h1 : schemaE d a = 0
 ·rw [if_neg (by simpa using h1)]
  by_cases h2 : 4096 < l.length
  ·rw [if_pos h2]
   constructor
   ·intro h; cases h
   ·rintro ⟨-, h, -⟩; omega
  ·rw [if_neg h2]
   by_cases h3 : firstE d a l = 0
   ·rw [if_neg (by simpa using h3)]
    have h4 := firstE_zero.1 h3
    cases h5 : dupC S with
    | true =>
     rw [if_pos rfl]
     constructor
     ·intro h; cases h
     ·rintro ⟨-, -, -, h⟩; cases h
    | false =>
     rw [if_neg (by decide)]
     exact ⟨fun _ => ⟨h1, by omega, h4, rfl⟩, fun _ => rfl⟩
   ·rw [if_pos h3]
    constructor
    ·intro h; exact absurd h h3
    ·rintro ⟨-, -, h, -⟩; exact absurd (firstE_zero.2 h) h3
 ·rw [if_pos h1]
  constructor
  ·intro h; exact absurd h h1
  ·rintro ⟨h, -⟩; exact absurd h h1
/-- the cells in another order -/
theorem makeQ_perm {d : List DimT} {a : List AttrT} {l l' S S' : List CellT} (hl : l.Perm l') (h1 : SortK CellT.co S) (h2 : SortK CellT.co S') (hS : S.Perm l) (hS' : S'.Perm l') : (makeE d a l S = 0 ↔ makeE d a l' S' = 0) ∧ makeQ d a l S = makeQ d a l' S' := by
 have hp : S.Perm S' := (hS.trans hl).trans hS'.symm
 have hd := dup_perm h1 h2 hp
 have he : makeE d a l S = 0 ↔ makeE d a l' S' = 0 := by
  rw [makeE_zero, makeE_zero, hd, hl.length_eq]
  constructor
  ·rintro ⟨k1, k2, k3, k4⟩; exact ⟨k1, k2, fun c hc => k3 c (hl.mem_iff.2 hc), k4⟩
  ·rintro ⟨k1, k2, k3, k4⟩; exact ⟨k1, k2, fun c hc => k3 c (hl.mem_iff.1 hc), k4⟩
 refine ⟨he, ?_⟩
 unfold makeQ
 by_cases h : makeE d a l S = 0
 ·rw [if_pos h, if_pos (he.1 h), sorted_same h1 h2 hp (makeE_zero.1 h).2.2.2]
 ·rw [if_neg h, if_neg fun h' => h (he.2 h')]
theorem ins_sorted {α : Type} {K : α → List Int} (x : α) : ∀ (S : List α), SortK K S → ∃ T, T.Perm (x :: S) ∧ SortK K T
 | [], _ => ⟨[x], List.Perm.refl _, List.pairwise_singleton _ _⟩
 | y :: r, hs => by
  have hp := List.pairwise_cons.1 hs
  by_cases h : leK K x y
  ·exact ⟨x :: y :: r, List.Perm.refl _, List.pairwise_cons.2 ⟨fun z hz => by
    rcases List.mem_cons.1 hz with rfl | hz
    ·exact h
    ·exact h.trans (hp.1 z hz), hs⟩⟩
  ·have hl : ltK K y x := Classical.byContradiction fun h' => h (not_ltK h')
   obtain ⟨T, ht, hst⟩ := ins_sorted x r hp.2
   exact ⟨y :: T, (ht.cons y).trans (List.Perm.swap x y r), List.pairwise_cons.2 ⟨fun z hz => by
    rcases List.mem_cons.1 (ht.mem_iff.1 hz) with rfl | hz
    ·exact hl.le
    ·exact hp.1 z hz, hst⟩⟩
theorem exists_sorted {α : Type} (K : α → List Int) : ∀ (l : List α), ∃ S, S.Perm l ∧ SortK K S
 | [] => ⟨[], List.Perm.refl _, List.Pairwise.nil⟩
 | x :: r => by
  obtain ⟨S, hp, hs⟩ := exists_sorted K r
  obtain ⟨T, ht, hst⟩ := ins_sorted x S hs
  exact ⟨T, ht.trans (hp.cons x), hst⟩
theorem makeE_schema {d : List DimT} {a : List AttrT} {l S : List CellT} (h : schemaE d a ≠ 0) : makeE d a l S = schemaE d a := by unfold makeE; rw [if_pos h]
theorem makeE_many {d : List DimT} {a : List AttrT} {l S : List CellT} (h : schemaE d a = 0) (h2 : 4096 < l.length) : makeE d a l S = 9 := by unfold makeE; rw [if_neg (by simpa using h), if_pos h2]
theorem makeE_first {d : List DimT} {a : List AttrT} {l S : List CellT} (h : schemaE d a = 0) (h2 : l.length ≤ 4096) (h3 : firstE d a l ≠ 0) : makeE d a l S = firstE d a l := by unfold makeE; rw [if_neg (by simpa using h), if_neg (by omega), if_pos h3]
theorem makeE_dup {d : List DimT} {a : List AttrT} {l S : List CellT} (h : schemaE d a = 0) (h2 : l.length ≤ 4096) (h3 : firstE d a l = 0) (h4 : dupC S = true) : makeE d a l S = 5 := by unfold makeE; rw [if_neg (by simpa using h), if_neg (by omega), if_neg (by simpa using h3), if_pos h4]
theorem makeE_ok {d : List DimT} {a : List AttrT} {l S : List CellT} (h : schemaE d a = 0) (h2 : l.length ≤ 4096) (h3 : firstE d a l = 0) (h4 : dupC S = false) : makeE d a l S = 0 := by unfold makeE; rw [if_neg (by simpa using h), if_neg (by omega), if_neg (by simpa using h3), if_neg (by simp [h4])]
theorem makeQ_bad {d : List DimT} {a : List AttrT} {l S : List CellT} (h : makeE d a l S ≠ 0) : makeQ d a l S = ⟨[], [], []⟩ := by unfold makeQ; rw [if_neg h]
theorem makeQ_ok {d : List DimT} {a : List AttrT} {l S : List CellT} (h : makeE d a l S = 0) : makeQ d a l S = ⟨d, a, S⟩ := by unfold makeQ; rw [if_pos h]
end Go.Proofs.YthlkcppbljpooaaGreatDoor
/- Cells behind cells that a call has made. (printed by mgc.py) -/
namespace Go.Proofs.YthlkcppbljpooaaGreatDoor
open Go.RowKit

theorem CutO.more {n₀ : Nat} {w0 w' : World} {v' : Value} {l l2 : List CellT} {us us2 : List (Value × Value)} (hl : us.length = l.length) (hx : ∀ (i : Nat) (c : CellT) (u : Value × Value), l[i]? = some c → us[i]? = some u → Ints w0 u.1 c.co ∧ Vals w0 u.2 c.vals)
  (hl2 : us2.length = l2.length) (hx2 : ∀ (i : Nat) (c : CellT) (u : Value × Value), l2[i]? = some c → us2[i]? = some u → Ints w0 u.1 c.co ∧ Vals w0 u.2 c.vals)
  (hn : w'.ownsRow n₀ 38 2 v' (l.length + l2.length) ((us.flatMap fun u => [u.1, u.2]) ++ (us2.flatMap fun u => [u.1, u.2]))) : CutO n₀ w0 w' v' (l ++ l2) := by
 refine ⟨us ++ us2, by simp [hl, hl2], by simpa using hn, fun i y z hi hz => ?_⟩
 by_cases hlt : i < l.length
 ·rw [List.getElem?_append_left hlt] at hi
  rw [List.getElem?_append_left (by omega)] at hz
  exact hx i y z hi hz
 ·rw [List.getElem?_append_right (by omega)] at hi hz
  rw [hl] at hz
  exact hx2 _ y z hi hz
/-- an older list behind what was made here -/
theorem append_ce (w0 w : World) (hb0 : Below w0.heap.size w0 w) (v : Value) (l : List CellT) (hown : CutO w0.heap.size w0 w v l) (u : Value) (l2 : List CellT) (hu : CellsA w0 u l2) (hlen : l.length + l2.length ≤ 1000000) (ty : TypeId) :
  ∃ v' w', (Builtin.append_ #[24, 24] ty #[v, u]).run Tryz.prog w = .ok v' w' ∧ CutO w0.heap.size w0 w' v' (l ++ l2) ∧ w.grownBy w' v.ownBlock := by
 obtain ⟨i0, hi0, hz0, hz1, hz2⟩ := info_parts infoCell
 obtain ⟨us, hul, ho, hux⟩ := hown
 obtain ⟨a, cap, rfl, hlc, hcm, hx0⟩ := hu
 rcases Nat.eq_zero_or_pos l2.length with h0 | h0
 ·obtain rfl : l2 = [] := List.length_eq_zero_iff.1 h0
  refine ⟨v, w, ?_, by rw [List.append_nil]; exact ⟨us, hul, ho, hux⟩, ⟨rfl, rfl, rfl, Nat.le_refl _, fun _ _ _ => rfl⟩⟩
  have hs : Src Tryz.prog i0.size 24 (.slice a 0 cap) 0 [] w := ⟨.inl ⟨_, Tryz.underlying24⟩, fun w' => rfl, by cases a <;> simp [Builtin.firstCells, loadCells, loadCellsFrom], by cases a <;> simp [Builtin.firstCells, loadCells, loadCellsFrom], by simp, fun u hu => by cases hu⟩
  rcases ho.2 with ⟨rfl, h9⟩ | ⟨g, c9, cur, rfl, k1, k2, k3, -⟩
  ·exact run_append_nothing w _ _ _ _ i0 Tryz.underlying24 hi0 none 0 0 (Nat.le_refl _) _ hs
  ·exact run_append_nothing w _ _ _ _ i0 Tryz.underlying24 hi0 _ _ _ k3 _ hs
 ·obtain ⟨g, o, rfl, hx⟩ := hx0 h0
  obtain ⟨us2, hl2, hx2⟩ := pairs_of (P := fun i p => ∃ c, l2[i]? = some c ∧ w.cell? ⟨g, o + i * 2, none⟩ = some p.1 ∧ w.cell? ⟨g, o + i * 2 + 1, none⟩ = some p.2 ∧ Ints w0 p.1 c.co ∧ Vals w0 p.2 c.vals) l2.length fun i hi => by
   have hc := List.getElem?_eq_getElem hi
   obtain ⟨v1, v2, k1, k2, k3, k4⟩ := (hx i _ hc).ex
   exact ⟨(v1, v2), _, hc, cell_later k1 hb0, cell_later k2 hb0, k3, k4⟩
  obtain ⟨g1, cp1, w', hrun, hn, hgr, -, -⟩ := run_append_lies (P := Tryz.prog) w 24 ty w0.heap.size 38 i0 (.agg #[.slice none 0 0, .slice none 0 0]) 2 48 Tryz.underlying24 hi0 hz0 hz1 hz2 rfl (by decide) v l.length _ ho ⟨g, o, none⟩ l2.length cap (us2.flatMap fun u => [u.1, u.2]) (by rw [flat_len (k := 2) (fun _ => rfl), hl2]) (fun j u hj => by
   obtain ⟨i, p, t, h1, h2, rfl⟩ := flat_get (k := 2) (f := fun u : Value × Value => [u.1, u.2]) (fun _ => rfl) us2 j u hj
   obtain ⟨c, -, k1, k2, -, -⟩ := hx2 i p h1
   rw [show (⟨g, o, none⟩ : Addr).add (i * 2 + t) = ⟨g, o + i * 2 + t, none⟩ from by unfold Addr.add; split <;> simp_all; omega]
   match t, h2 with
   | 0, h2 => simp only [List.getElem?_cons_zero, Option.some.injEq] at h2; subst h2; exact k1
   | 1, h2 => simp only [List.getElem?_cons_succ, List.getElem?_cons_zero, Option.some.injEq] at h2; subst h2; exact k2) (fun u hu => by
   obtain ⟨p, hp, hm⟩ := List.mem_flatMap.1 hu
   obtain ⟨i, hi⟩ := List.mem_iff_getElem?.1 hp
   obtain ⟨c, -, -, -, k3, k4⟩ := hx2 i p hi
   obtain ⟨a3, b3, e3, -⟩ := k3.shape
   obtain ⟨a4, b4, e4, -⟩ := k4.shape
   simp only [List.mem_cons, List.not_mem_nil, or_false] at hm
   rcases hm with rfl | rfl
   ·rw [e3]; rfl
   ·rw [e4]; rfl) h0 (by unfold maxLen; omega) (by omega) hb0.size _ rfl
  exact ⟨_, w', hrun, CutO.more hul hux hl2 (fun i c u hi hu => by
   obtain ⟨c', hc', -, -, k3, k4⟩ := hx2 i u hu
   rw [hi] at hc'
   obtain rfl := Option.some.inj hc'
   exact ⟨k3, k4⟩) hn, hgr⟩
end Go.Proofs.YthlkcppbljpooaaGreatDoor
/- The reference's merged: two sorted lists of cells as one. (printed by mgc.py) -/
namespace Go.Proofs.YthlkcppbljpooaaGreatDoor
open Go.RowKit

theorem cmpI_less (a b : List Int) : decide (cmpI a b < 0) = decide (cmpI a b = -1) := by
 rcases cmpI_cases a b with h | h | h <;> rw [h] <;> rfl
theorem CutO.below {n₀ : Nat} {w0 w : World} {v : Value} {l : List CellT} (h : CutO n₀ w0 w v l) : ∀ k, v.ownBlock = some k → n₀ ≤ k := by
 obtain ⟨us, -, ho, -⟩ := h.ex
 exact fun k e => (ho.lt k e).1
def RetSrC (P : List CellT → Prop) (w : World) (e : Ending) (w' : World) : Prop := ∃ v l, e = .returned v ∧ P l ∧ CellsA w' v l ∧ Below w.heap.size w w'
set_option maxHeartbeats 16000000 in
set_option maxRecDepth 100000 in
theorem merged_any (A B : List CellT) (va vb : Value) (w : World) (ha : CellsA w va A) (hb : CellsA w vb B) (hsA : SortK CellT.co A) (hsB : SortK CellT.co B) (hn : A.length + B.length ≤ 1000000) :
  Calls Tryz.prog 71 #[va, vb] w (RetSrC (fun l => l.Perm (A ++ B) ∧ SortK CellT.co l) w) := by
 have HM0 : Hid (MgAt CellT.co A B [] A B) := MgAt.start hsA hsB
 have HA := Lib.hid ha
 have HB := Lib.hid hb
 have HN : Hid (∀ D X Y : List CellT, MgAt CellT.co A B D X Y → D.length + X.length + Y.length ≤ 1000000) := fun D X Y h => by
  have := h.perm.length_eq
  simp only [List.length_append] at this
  omega
 obtain ⟨j0, hj0, hy0, hy1, hy2⟩ := info_parts infoCell
 clear ha hb hsA hsB hn
 go_enter Tryz.func71, Tryz.ntmps71
 let KF : (Ending → World → Prop) → Exit → Act → World → Prop := bodyPost Tryz.prog Tryz.f71
 go_wp2
 go_loopw [0, 1, 5] (fun xv yv sv wr => ∃ (D X Y : List CellT), MgAt CellT.co A B D X Y ∧ CellsA w xv X ∧ CellsA w yv Y ∧ CutO w.heap.size w wr sv D ∧ Below w.heap.size w wr) (fun xv yv _ _ => lenV xv + lenV yv)
 case atStart => exact ⟨[], A, B, HM0.out, HA.out, HB.out, CutO.nil _ _ _, Below.refl _ _⟩
 case round =>
  obtain ⟨D, X, Y, hm, hx, hy, ho, hb⟩ := hrel
  have HM := Lib.hid hm
  have HX := Lib.hid hx
  have HY := Lib.hid hy
  have HO := Lib.hid ho
  have HBR := Lib.hid hb
  have hle := HN.out D X Y hm
  have hxl := hx.len
  have hyl := hy.len
  obtain ⟨q1, k1, rfl, -⟩ := hx.shape
  obtain ⟨q2, k2, rfl, -⟩ := hy.shape
  clear hm hx hy hb HM0 HA HB
  by_cases hX : 0 < X.length
  ·by_cases hY : 0 < Y.length
   ·obtain ⟨g1, o1, x, e1, hx0, hr1⟩ := HX.out.at 0 hX
    obtain ⟨g2, o2, y, e2, hy0', hr2⟩ := HY.out.at 0 hY
    subst e1 e2
    obtain ⟨u1, u2, x0, x1, i1, i2⟩ := hr1.ex
    obtain ⟨u3, u4, y0, y1, i3, i4⟩ := hr2.ex
    rw [Nat.zero_mul, Nat.add_zero] at x0 x1 y0 y1
    have I12 := Lib.hid (And.intro i1 i2)
    have I34 := Lib.hid (And.intro i3 i4)
    obtain ⟨m1, c1, rfl, -⟩ := i1.shape
    obtain ⟨m2, c2, rfl, -⟩ := i2.shape
    obtain ⟨m3, c3, rfl, -⟩ := i3.shape
    obtain ⟨m4, c4, rfl, -⟩ := i4.shape
    have t1 : decide ((0 : Int) < (X.length : Int)) = true := decide_eq_true (by omega)
    have t2 : decide ((0 : Int) < (Y.length : Int)) = true := decide_eq_true (by omega)
    have t3 : (0 : Int) < (X.length : Int) := by omega
    have t4 : (0 : Int) < (Y.length : Int) := by omega
    have hb := HBR.out
    have KX : Hid (∀ wz, Below w.heap.size w wz → wz.cell? ⟨g1, o1, none⟩ = some (.slice m1 x.co.length c1) ∧ wz.cell? ⟨g1, o1 + 1, none⟩ = some (.slice m2 x.vals.length c2) ∧ wz.cell? ⟨g2, o2, none⟩ = some (.slice m3 y.co.length c3) ∧ wz.cell? ⟨g2, o2 + 1, none⟩ = some (.slice m4 y.vals.length c4)) := fun wz h => ⟨cell_later x0 h, cell_later x1 h, cell_later y0 h, cell_later y1 h⟩
    clear hr1 hr2 i1 i2 i3 i4 x0 x1 y0 y1
    obtain ⟨x0, x1, y0, y1⟩ := KX.out wr hb
    clear hb
    have KX3 : Hid (∀ wz, Below wr.heap.size wr wz → (wz.cell? ⟨g1, o1, none⟩ = some (.slice m1 x.co.length c1) ∧ wz.cell? ⟨g2, o2, none⟩ = some (.slice m3 y.co.length c3) ∧ Below wr.heap.size wr wz)) := fun wz h => ⟨(KX.out wz (below_keep HBR.out h)).1, (KX.out wz (below_keep HBR.out h)).2.2.1, h⟩
    have CP := Lib.hid (fun wz (h : Below wr.heap.size wr wz) => rcompare_any y.co x.co (.slice m3 y.co.length c3) (.slice m1 x.co.length c1) wz (I34.out.1.later IntR.lasts (below_keep HBR.out h)) (I12.out.1.later IntR.lasts (below_keep HBR.out h)))
    obtain ⟨M, hM⟩ : ∃ M, M = cmpI y.co x.co := ⟨_, rfl⟩
    rw [← hM] at CP
    have HMM := Lib.hid hM
    clear hM
    go_upto_region 3 with (fail)
    go_cut [23] (fun a wx => a = .bool (decide (M < 0)) ∧ Below wr.heap.size wr wx)
    case first =>
     clear ho HO HM
     go_wp2_with fail
     go_region_held3 (fun wz => (wz.cell? ⟨g1, o1, none⟩ = some (.slice m1 x.co.length c1) ∧ wz.cell? ⟨g2, o2, none⟩ = some (.slice m3 y.co.length c3) ∧ Below wr.heap.size wr wz))
      (first | exact KX3.out _ (Below.refl _ _).drew | exact KX3.out _ (by assumption))
      ((go_at_call 29; refine (CP.out _ (Below.refl _ _).drew).mono ?_; rintro e wy ⟨rfl, hb2⟩; have hb3 : Below wr.heap.size wr wy := below_keep (Below.refl _ _).drew hb2))
     go_wp2
     go_meet
     exact ⟨rfl, hb3⟩
    case rest =>
    obtain ⟨rfl, hbc⟩ := hcut
    have HBC := Lib.hid (below_keep HBR.out hbc)
    have hoc := HO.out.later hbc
    obtain ⟨us, hul, hus, hux⟩ := hoc.ex
    obtain ⟨x0, x1, y0, y1⟩ := KX.out wc HBC.out
    have HUX := Lib.hid hux
    have HUL := Lib.hid hul
    have hge : w.heap.size ≤ wc.heap.size := HBC.out.size
    clear hbc hoc hul hux ho
    obtain ⟨X', hX'⟩ : ∃ X', X = x :: X' := by
     cases X with
     | nil => simp at hX
     | cons a X' => simp only [List.getElem?_cons_zero, Option.some.injEq] at hx0; exact ⟨X', by rw [hx0]⟩
    obtain ⟨Y', hY'⟩ : ∃ Y', Y = y :: Y' := by
     cases Y with
     | nil => simp at hY
     | cons a Y' => simp only [List.getElem?_cons_zero, Option.some.injEq] at hy0'; exact ⟨Y', by rw [hy0']⟩
    by_cases hlt : M < 0
    ·have hl : ltK CellT.co y x := show cmpI y.co x.co = -1 from of_decide_eq_true ((cmpI_less _ _).symm.trans (decide_eq_true (by rw [← HMM.out]; exact hlt)))
     have hm := HM.out
     rw [hX', hY'] at hm
     have hm := hm.right hl
     rw [← hX'] at hm
     have HMN := Lib.hid hm
     have hyb := HY.out
     have hyl2 : Y.length = Y'.length + 1 := by rw [hY']; rfl
     have HYB : Hid (CellsA w (.slice (if k2 = 1 then some ⟨g2, o2, none⟩ else some ⟨g2, o2 + 2, none⟩) (Y.length - 1) (k2 - 1)) Y') := by
      have h9 := HY.out
      rw [hY'] at h9 ⊢
      exact h9.tail1
     have HYL := Lib.hid hyl2
     clear hyb
     rw [decide_eq_true hlt]
     clear hl hm hX' hY' hlt hx0 hy0' hX hY hyl2
     go_wp2_with (at_builtin; refine wpList_append_lies _ (by rfl) _ _ 24 (by rfl) w.heap.size 38 j0 (.agg #[.slice none 0 0, .slice none 0 0]) 2 48 Tryz.underlying24 hj0 hy0 hy1 hy2 rfl (by decide) _ D.length (us.flatMap fun u => [u.1, u.2]) (by rfl) (hus.alloc _) ⟨wc.heap.size, 0, none⟩ 1 1 [.slice m3 y.co.length c3, .slice m4 y.vals.length c4] (by rfl) (by rfl) (two_at _ _ _ _) (by simp [Value.oneCell']) (by omega) (by unfold maxLen; omega) (by omega) (by simp; omega) (wc.heap.size + 1) (by simp) ?_)
     intro g7 cp7 w7 hown hgrow hat hlt6
     have HE7 := Lib.hid (CutO.more (l2 := [y]) (us2 := [(.slice m3 y.co.length c3, .slice m4 y.vals.length c4)]) HUL.out HUX.out rfl (fun i c u hi hu => by
      match i, hi, hu with
      | 0, hi, hu =>
       simp only [List.getElem?_cons_zero, Option.some.injEq] at hi hu
       subst hi hu
       exact I34.out) hown)
     have hbd : Below wc.heap.size wc (wc.alloc (.cells #[.slice m3 y.co.length c3, .slice m4 y.vals.length c4] 38)) := below_alloc _ _
     have HB7 := Lib.hid (HBC.out.trans ((hbd.mono hge).grown hgrow (Nat.le_trans hge hbd.size) (fun k e => (hus.lt k e).1)))
     clear hus hown hgrow hat hlt6 hbd hge
     go_wp2
     exact ⟨⟨D ++ [y], X, Y', HMN.out, HX.out, HYB.out, HE7.out, HB7.out⟩, by show _ + _ < _ + _; have := HYL.out; simp only [lenV]; omega⟩
    ·have hl : ¬ ltK CellT.co y x := fun h => hlt (by rw [HMM.out]; exact of_decide_eq_true ((cmpI_less _ _).trans (decide_eq_true h)))
     have hm := HM.out
     rw [hX', hY'] at hm
     have hm := hm.left hl
     rw [← hY'] at hm
     have HMN := Lib.hid hm
     have hyb := HX.out
     have hyl2 : X.length = X'.length + 1 := by rw [hX']; rfl
     have HYB : Hid (CellsA w (.slice (if k1 = 1 then some ⟨g1, o1, none⟩ else some ⟨g1, o1 + 2, none⟩) (X.length - 1) (k1 - 1)) X') := by
      have h9 := HX.out
      rw [hX'] at h9 ⊢
      exact h9.tail1
     have HYL := Lib.hid hyl2
     clear hyb
     rw [decide_eq_false hlt]
     clear hl hm hX' hY' hlt hx0 hy0' hX hY hyl2
     go_wp2_with (at_builtin; refine wpList_append_lies _ (by rfl) _ _ 24 (by rfl) w.heap.size 38 j0 (.agg #[.slice none 0 0, .slice none 0 0]) 2 48 Tryz.underlying24 hj0 hy0 hy1 hy2 rfl (by decide) _ D.length (us.flatMap fun u => [u.1, u.2]) (by rfl) (hus.alloc _) ⟨wc.heap.size, 0, none⟩ 1 1 [.slice m1 x.co.length c1, .slice m2 x.vals.length c2] (by rfl) (by rfl) (two_at _ _ _ _) (by simp [Value.oneCell']) (by omega) (by unfold maxLen; omega) (by omega) (by simp; omega) (wc.heap.size + 1) (by simp) ?_)
     intro g7 cp7 w7 hown hgrow hat hlt6
     have HE7 := Lib.hid (CutO.more (l2 := [x]) (us2 := [(.slice m1 x.co.length c1, .slice m2 x.vals.length c2)]) HUL.out HUX.out rfl (fun i c u hi hu => by
      match i, hi, hu with
      | 0, hi, hu =>
       simp only [List.getElem?_cons_zero, Option.some.injEq] at hi hu
       subst hi hu
       exact I12.out) hown)
     have hbd : Below wc.heap.size wc (wc.alloc (.cells #[.slice m1 x.co.length c1, .slice m2 x.vals.length c2] 38)) := below_alloc _ _
     have HB7 := Lib.hid (HBC.out.trans ((hbd.mono hge).grown hgrow (Nat.le_trans hge hbd.size) (fun k e => (hus.lt k e).1)))
     clear hus hown hgrow hat hlt6 hbd hge
     go_wp2
     exact ⟨⟨D ++ [x], X', Y, HMN.out, HYB.out, HY.out, HE7.out, HB7.out⟩, by show _ + _ < _ + _; have := HYL.out; simp only [lenV]; omega⟩
   ·have HDN := Lib.hid (HM.out.done (.inr (List.length_eq_zero_iff.1 (by omega))))
    have t1 : decide ((0 : Int) < (X.length : Int)) = true := decide_eq_true (by omega)
    have t2 : decide ((0 : Int) < (Y.length : Int)) = false := decide_eq_false (by omega)
    have t3 : (0 : Int) < (X.length : Int) := by omega
    have t4 : ¬ (0 : Int) < (Y.length : Int) := by omega
    obtain ⟨v1, w1, hrun1, ko1, hgr1⟩ := append_ce w wr HBR.out _ D HO.out _ X HX.out (by omega) 24
    have hb1 : Below w.heap.size w w1 := HBR.out.grown hgr1 HBR.out.size HO.out.below
    obtain ⟨v2, w2, hrun2, ko2, hgr2⟩ := append_ce w w1 hb1 _ (D ++ X) ko1 _ Y HY.out (by rw [List.length_append]; omega) 24
    have HB2 := Lib.hid (hb1.grown hgr2 hb1.size ko1.below)
    have HK2 := Lib.hid (ko2.cells HB2.out)
    have HR1 := Lib.hid hrun1
    have HR2 := Lib.hid hrun2
    clear hrun1 ko1 hgr1 hb1 hrun2 ko2 hgr2 ho hle hX hY
    go_wp2_with (at_builtin; first | (refine Lib.wpList_append_run _ rfl _ _ _ _ rfl _ _ rfl rfl _ _ HR1.out ?_) | (refine Lib.wpList_append_run _ rfl _ _ _ _ rfl _ _ rfl rfl _ _ HR2.out ?_))
    go_wp2
    go_ret
    exact ⟨_, _, rfl, HDN.out, HK2.out, HB2.out⟩
  ·have HDN := Lib.hid (HM.out.done (.inl (List.length_eq_zero_iff.1 (by omega))))
   have t1 : decide ((0 : Int) < (X.length : Int)) = false := decide_eq_false (by omega)
   have t3 : ¬ (0 : Int) < (X.length : Int) := by omega
   obtain ⟨v1, w1, hrun1, ko1, hgr1⟩ := append_ce w wr HBR.out _ D HO.out _ X HX.out (by omega) 24
   have hb1 : Below w.heap.size w w1 := HBR.out.grown hgr1 HBR.out.size HO.out.below
   obtain ⟨v2, w2, hrun2, ko2, hgr2⟩ := append_ce w w1 hb1 _ (D ++ X) ko1 _ Y HY.out (by rw [List.length_append]; omega) 24
   have HB2 := Lib.hid (hb1.grown hgr2 hb1.size ko1.below)
   have HK2 := Lib.hid (ko2.cells HB2.out)
   have HR1 := Lib.hid hrun1
   have HR2 := Lib.hid hrun2
   clear hrun1 ko1 hgr1 hb1 hrun2 ko2 hgr2 ho hle hX
   go_wp2_with (at_builtin; first | (refine Lib.wpList_append_run _ rfl _ _ _ _ rfl _ _ rfl rfl _ _ HR1.out ?_) | (refine Lib.wpList_append_run _ rfl _ _ _ _ rfl _ _ rfl rfl _ _ HR2.out ?_))
   go_wp2
   go_ret
   exact ⟨_, _, rfl, HDN.out, HK2.out, HB2.out⟩
end Go.Proofs.YthlkcppbljpooaaGreatDoor
/- The reference's Sorted. (printed by mgd.py) -/
namespace Go.Proofs.YthlkcppbljpooaaGreatDoor
open Go.RowKit

/-- a value that lies: the list in its order -/
def SrtC9 (A : List CellT) (u : Value) (w : World) : Prop := ∃ l, CellsA w u l ∧ l.Perm A ∧ SortK CellT.co l
theorem SrtC9.later {A : List CellT} {u : Value} {w w' : World} (h : SrtC9 A u w) (hb : Below w.heap.size w w') : SrtC9 A u w' := by
 obtain ⟨l, h1, h2, h3⟩ := h
 exact ⟨l, h1.later CellR.lasts hb, h2, h3⟩
set_option maxHeartbeats 4000000 in
theorem sortedC_short (A : List CellT) (v : Value) (w : World) (h2 : A.length < 2) (ha : CellsA w v A) :
  Calls Tryz.prog 28 #[v] w (RetSrC (fun l => l.Perm A ∧ SortK CellT.co l) w) := by
 have hba : Below w.heap.size w (w.alloc (.cells #[] 38)) := below_alloc _ _
 obtain ⟨v1, w1, hrun, hc, hg⟩ := append_ce w (w.alloc (.cells #[] 38)) hba (.slice (some ⟨w.heap.size, 0, none⟩) 0 0) [] ⟨[], rfl, World.ownsRow_made w #[] 0 (Nat.le_refl _) (by decide) (by simp), fun i x u h => by simp at h⟩ v A ha (by simp; omega) 24
 have hb1 : Below w.heap.size w w1 := hba.grown hg (by simp) (fun k e => by simp only [Value.ownBlock, Option.some.injEq] at e; omega)
 have HR := Lib.hid hrun
 have HC : Hid (CellsA w1 v1 A) := by
  have := hc.cells hb1
  rwa [List.nil_append] at this
 have HB := Lib.hid hb1
 have hs : SortK CellT.co A := by
  match A, h2 with
  | [], _ => exact List.Pairwise.nil
  | [x], _ => exact List.pairwise_singleton _ _
 have HS := Lib.hid hs
 have t2 : (A.length : Int) < 2 := by omega
 obtain ⟨q1, k1, rfl, -⟩ := ha.shape
 clear ha h2 hs hba hrun hc hg hb1
 go_enter Tryz.func28, Tryz.ntmps28
 go_wp2_with (at_builtin; refine Lib.wpList_append_run _ rfl _ _ _ _ rfl _ _ rfl rfl _ _ HR.out ?_)
 go_wp2
 go_ret
 exact ⟨_, _, rfl, ⟨List.Perm.refl _, HS.out⟩, HC.out, HB.out⟩
set_option maxHeartbeats 16000000 in
set_option maxRecDepth 100000 in
theorem sortedC_from : ∀ (n : Nat) (A : List CellT) (v : Value) (w : World), A.length ≤ n → CellsA w v A → A.length ≤ 1000000 →
  Calls Tryz.prog 28 #[v] w (RetSrC (fun l => l.Perm A ∧ SortK CellT.co l) w) := by
 intro n
 induction n with
 | zero =>
  intro A v w hn ha hl
  obtain rfl : A = [] := List.length_eq_zero_iff.1 (by omega)
  exact sortedC_short [] v w (by decide) ha
 | succ n ih =>
  intro A v w hn ha hl
  have HA := Lib.hid ha
  have HLN := Lib.hid hl
  by_cases h2 : A.length < 2
  ·exact sortedC_short A v w h2 ha
  obtain ⟨g, o, c0, e1, -, -⟩ : ∃ g o, ∃ c0 : CellT, (∃ k, v = .slice (some ⟨g, o, none⟩) A.length k) ∧ A[0]? = some c0 ∧ True := by
   obtain ⟨q1, k1, rfl, -⟩ := ha.shape
   obtain ⟨g, o, c0, e, h0, -⟩ := ha.at 0 (by omega)
   exact ⟨g, o, c0, ⟨k1, by rw [e]⟩, h0, trivial⟩
  obtain ⟨k1, rfl⟩ := e1
  obtain ⟨h, hh⟩ : ∃ h, h = A.length / 2 := ⟨_, rfl⟩
  have hk : A.length ≤ k1 := by
   obtain ⟨a, cap', e, h1, -, -⟩ := ha
   injection e with e1 e2 e3
   omega
  have t2 : ¬ (A.length : Int) < 2 := by omega
  have td : (A.length : Int).tdiv 2 = (h : Int) := by rw [Int.tdiv_eq_ediv_of_nonneg (by omega)]; omega
  have wd : IntKind.i64.wrap (h : Int) = (h : Int) := IntWalk.i64_in _ (by omega)
  have b0 : (0 : Int) ≤ (h : Int) := by omega
  have b1 : (h : Int) ≤ (A.length : Int) := by omega
  have b2 : (h : Int) ≤ (k1 : Int) := by omega
  have b3 : (A.length : Int) ≤ (k1 : Int) := by omega
  have hle : h ≤ A.length := by omega
  have hne : ¬ k1 = h := by omega
  have CI1 := Lib.hid (fun w9 (hb : Below w.heap.size w w9) => ih (A.take h) _ w9 (by rw [List.length_take]; omega) ((ha.front hle).later CellR.lasts hb) (by rw [List.length_take]; omega))
  have CI2 := Lib.hid (fun w9 (hb : Below w.heap.size w w9) => ih (A.drop h) _ w9 (by rw [List.length_drop]; omega) ((ha.behind hle).later CellR.lasts hb) (by rw [List.length_drop]; omega))
  clear ha hn h2 ih hh hl
  go_enter Tryz.func28, Tryz.ntmps28
  go_wp2_with fail
  refine wp_region_list [.val (.slice (some ⟨g, o, none⟩) A.length k1), .val (.int .i64 (h : Nat)), .val (.slice (some ⟨g, o, none⟩) h k1), .holds (fun u w9 => SrtC9 (A.take h) u w9), .val (.slice (some ⟨g, o, none⟩) A.length k1), .val (.int .i64 (h : Nat)), .val (.slice (some ⟨g, o + h * 2, none⟩) (A.length - h) (k1 - h)), .holds (fun u w9 => SrtC9 (A.drop h) u w9), .holds (fun u w9 => SrtC9 A u w9), .holds (fun u w9 => SrtC9 A u w9)]
   [some 13, some 14, some 15, some 16, some 17, some 18, some 19, some 20, some 21, some 2]
   (fun w9 => Below w.heap.size w w9) (fun a9 b9 => Below a9.heap.size a9 b9) rfl (by kernel_rfl) (by kernel_rfl) (by kernel_rfl) (by kernel_rfl) ?_ ?_ ?_ ?_
  ·(intro y hy v w1 w2 hs hv; simp only [List.mem_cons, List.not_mem_nil, or_false] at hy; rcases hy with rfl | rfl | rfl | rfl | rfl | rfl | rfl | rfl | rfl | rfl; all_goals first | exact hv | exact hv.later hs)
  ·exact (Below.refl _ _).drew
  ·intro i9 op9 ho
   have hi9 : i9 < 10 := (Array.getElem?_eq_some_iff.1 ho).1
   match i9, hi9 with
   | 0, _ =>
    obtain rfl := Option.some.inj ho
    intro a9 wx hBx hev haf
    rw [if_pos (wanted_none rfl)]
    have f0 : (a9.tmps[0]?).getD undef = .slice (some ⟨g, o, none⟩) A.length k1 := hev 0 (by kernel_rfl)
    clear haf hev
    go_simp
    exact ⟨rfl, Below.refl _ _, hBx⟩
   | 1, _ =>
    obtain rfl := Option.some.inj ho
    intro a9 wx hBx hev haf
    rw [if_pos (wanted_none rfl)]
    have f3 : (a9.tmps[3]?).getD undef = .int .i64 (h : Nat) := hev 3 (by kernel_rfl)
    clear haf hev
    go_simp
    exact ⟨rfl, Below.refl _ _, hBx⟩
   | 2, _ =>
    obtain rfl := Option.some.inj ho
    intro a9 wx hBx hev haf
    rw [if_pos (wanted_none rfl)]
    have f13 : (a9.tmps[13]?).getD undef = (.slice (some ⟨g, o, none⟩) A.length k1) := haf 0 _ rfl rfl 13 rfl
    have f14 : (a9.tmps[14]?).getD undef = (.int .i64 (h : Nat)) := haf 1 _ rfl rfl 14 rfl
    clear haf hev
    go_simp
    exact ⟨rfl, Below.refl _ _, hBx⟩
   | 3, _ =>
    obtain rfl := Option.some.inj ho
    intro a9 wx hBx hev haf
    rw [if_pos (wanted_none rfl)]
    have f15 : (a9.tmps[15]?).getD undef = (.slice (some ⟨g, o, none⟩) h k1) := haf 0 _ rfl rfl 15 rfl
    clear haf hev
    go_simp
    exact (CI1.out wx hBx).mono fun e w9 ⟨u, l, he, hp, hk, hb⟩ => ⟨u, he, ⟨l, hk, hp.1, hp.2⟩, hb, below_keep hBx hb⟩
   | 4, _ =>
    obtain rfl := Option.some.inj ho
    intro a9 wx hBx hev haf
    rw [if_pos (wanted_none rfl)]
    have f0 : (a9.tmps[0]?).getD undef = .slice (some ⟨g, o, none⟩) A.length k1 := hev 0 (by kernel_rfl)
    clear haf hev
    go_simp
    exact ⟨rfl, Below.refl _ _, hBx⟩
   | 5, _ =>
    obtain rfl := Option.some.inj ho
    intro a9 wx hBx hev haf
    rw [if_pos (wanted_none rfl)]
    have f3 : (a9.tmps[3]?).getD undef = .int .i64 (h : Nat) := hev 3 (by kernel_rfl)
    clear haf hev
    go_simp
    exact ⟨rfl, Below.refl _ _, hBx⟩
   | 6, _ =>
    obtain rfl := Option.some.inj ho
    intro a9 wx hBx hev haf
    rw [if_pos (wanted_none rfl)]
    have f17 : (a9.tmps[17]?).getD undef = (.slice (some ⟨g, o, none⟩) A.length k1) := haf 0 _ rfl rfl 17 rfl
    have f18 : (a9.tmps[18]?).getD undef = (.int .i64 (h : Nat)) := haf 1 _ rfl rfl 18 rfl
    clear haf hev
    go_simp
    exact ⟨rfl, Below.refl _ _, hBx⟩
   | 7, _ =>
    obtain rfl := Option.some.inj ho
    intro a9 wx hBx hev haf
    rw [if_pos (wanted_none rfl)]
    have f19 : (a9.tmps[19]?).getD undef = (.slice (some ⟨g, o + h * 2, none⟩) (A.length - h) (k1 - h)) := haf 0 _ rfl rfl 19 rfl
    clear haf hev
    go_simp
    exact (CI2.out wx hBx).mono fun e w9 ⟨u, l, he, hp, hk, hb⟩ => ⟨u, he, ⟨l, hk, hp.1, hp.2⟩, hb, below_keep hBx hb⟩
   | 8, _ =>
    obtain rfl := Option.some.inj ho
    intro a9 wx hBx hev haf
    rw [if_pos (wanted_none rfl)]
    have f16 := Lib.hid (haf 0 _ rfl rfl 16 rfl)
    have f20 := Lib.hid (haf 1 _ rfl rfl 20 rfl)
    clear haf hev
    obtain ⟨l1, kk1, pp1, ss1⟩ := f16.out
    obtain ⟨l2, kk2, pp2, ss2⟩ := f20.out
    have HJ := Lib.hid (merged_any l1 l2 _ _ wx kk1 kk2 ss1 ss2 (by rw [pp1.length_eq, pp2.length_eq, List.length_take, List.length_drop]; have := HLN.out; omega))
    have HPP := Lib.hid (And.intro pp1 pp2)
    clear kk1 kk2 pp1 pp2 ss1 ss2
    go_simp
    exact HJ.out.mono fun e w9 ⟨u, l, he, hp, hk, hb⟩ => ⟨u, he, ⟨l, hk, (hp.1.trans (List.Perm.append HPP.out.1 HPP.out.2)).trans (List.Perm.of_eq (List.take_append_drop h A)), hp.2⟩, hb, below_keep hBx hb⟩
   | 9, _ =>
    obtain rfl := Option.some.inj ho
    intro a9 wx hBx hev haf
    rw [if_pos (wanted_none rfl)]
    have f21 := Lib.hid (haf 0 _ rfl rfl 21 rfl)
    clear haf hev
    go_simp
    exact ⟨f21.out, Below.refl _ _, hBx⟩
  ·intro vals wx hBx hG
   have g0 : vals 0 = (.slice (some ⟨g, o, none⟩) A.length k1) := hG 0 (by decide)
   have g1 : vals 1 = (.int .i64 (h : Nat)) := hG 1 (by decide)
   have g2 : vals 2 = (.slice (some ⟨g, o, none⟩) h k1) := hG 2 (by decide)
   have g3 := hG 3 (by decide)
   have g4 : vals 4 = (.slice (some ⟨g, o, none⟩) A.length k1) := hG 4 (by decide)
   have g5 : vals 5 = (.int .i64 (h : Nat)) := hG 5 (by decide)
   have g6 : vals 6 = (.slice (some ⟨g, o + h * 2, none⟩) (A.length - h) (k1 - h)) := hG 6 (by decide)
   have g7 := hG 7 (by decide)
   have g8 := hG 8 (by decide)
   have g9 := hG 9 (by decide)
   clear hG
   simp only [putDs, Act.put, Nat.zero_add, Nat.reduceAdd, List.setIfInBounds_toArray, List.set_cons_succ, List.set_cons_zero, g0, g1, g2, g4, g5, g6]
   clear g0 g1 g2 g4 g5 g6
   have HG := Lib.hid g9
   clear g3 g7 g8 g9
   obtain ⟨y3, hy3⟩ : ∃ y, vals 3 = y := ⟨_, rfl⟩
   obtain ⟨y7, hy7⟩ : ∃ y, vals 7 = y := ⟨_, rfl⟩
   obtain ⟨y8, hy8⟩ : ∃ y, vals 8 = y := ⟨_, rfl⟩
   obtain ⟨y9, hy9⟩ : ∃ y, vals 9 = y := ⟨_, rfl⟩
   rw [hy9] at HG
   rw [hy3, hy7, hy8, hy9]
   clear hy3 hy7 hy8 hy9
   have HBX := Lib.hid hBx
   clear hBx
   go_wp2
   go_ret
   obtain ⟨l, k, p, s⟩ := HG.out
   exact ⟨_, l, rfl, ⟨p, s⟩, k, HBX.out⟩
theorem sortedC_any (A : List CellT) (v : Value) (w : World) (ha : CellsA w v A) (hl : A.length ≤ 1000000) : Calls Tryz.prog 28 #[v] w (RetSrC (fun l => l.Perm A ∧ SortK CellT.co l) w) :=
 sortedC_from A.length A v w (Nat.le_refl _) ha hl
end Go.Proofs.YthlkcppbljpooaaGreatDoor
