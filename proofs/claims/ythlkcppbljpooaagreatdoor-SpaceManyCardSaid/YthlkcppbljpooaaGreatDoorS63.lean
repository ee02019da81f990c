/- Make in plain words: what is returned depends on the cells, not on their order. -/
import Derived.Test.YthlkcppbljpooaaGreatDoorS4
import Derived.Test.YthlkcppbljpooaaGreatDoorS7
namespace Go.Proofs.YthlkcppbljpooaaGreatDoor

def firstE (d : List DimT) (a : List AttrT) : List CellT → Int
 | [] => 0
 | c :: r => if cellE d a c ≠ 0 then cellE d a c else firstE d a r
theorem firstE_drop {d : List DimT} {a : List AttrT} {l : List CellT} {i : Nat} {c : CellT} (h : l[i]? = some c) : firstE d a (l.drop i) = if cellE d a c ≠ 0 then cellE d a c else firstE d a (l.drop (i + 1)) := by
 rw [drop_cons h, firstE]
theorem firstE_zero {d : List DimT} {a : List AttrT} : ∀ {l : List CellT}, firstE d a l = 0 ↔ ∀ c ∈ l, cellE d a c = 0
 | [] => by simp [firstE]
 | c :: r => by
  rw [firstE]
  by_cases h : cellE d a c = 0
  ·rw [if_neg (by simpa using h), firstE_zero (l := r)]
   simp [h]
  ·rw [if_pos h]
   constructor
   ·intro h2; exact absurd h2 h
   ·intro h2; exact h2 c (by simp)
/-- two neighbors have the same coordinates -/
def dupC : List CellT → Bool
 | x :: y :: r => decide (x.co = y.co) || dupC (y :: r)
 | _ => false
theorem dupC_drop {l : List CellT} {i : Nat} {x y : CellT} (h1 : l[i]? = some x) (h2 : l[i + 1]? = some y) : dupC (l.drop i) = (decide (x.co = y.co) || dupC (l.drop (i + 1))) := by
 rw [drop_cons h1, drop_cons h2, dupC]
theorem dupC_end {l : List CellT} {i : Nat} (h : l.length ≤ i + 1) : dupC (l.drop i) = false := by
 have hl : (l.drop i).length ≤ 1 := by rw [List.length_drop]; omega
 match l.drop i, hl with
 | [], _ => rfl
 | [x], _ => rfl
 | _ :: _ :: _, h => simp at h
theorem dup_iff : ∀ {l : List CellT}, SortK CellT.co l → (dupC l = false ↔ (l.map CellT.co).Nodup)
 | [], _ => by simp [dupC]
 | [x], _ => by simp [dupC]
 | x :: y :: r, h => by
  have hp := List.pairwise_cons.1 h
  have ih := dup_iff hp.2
  have e9 : ((x :: y :: r).map CellT.co).Nodup ↔ x.co ∉ (y :: r).map CellT.co ∧ ((y :: r).map CellT.co).Nodup := List.nodup_cons
  rw [dupC, Bool.or_eq_false_iff, decide_eq_false_iff_not, ih, e9]
  constructor
  ·rintro ⟨h1, h2⟩
   refine ⟨fun hm => ?_, h2⟩
   obtain ⟨z, hz, he⟩ := List.mem_map.1 hm
   have hxy := hp.1 y (by simp)
   have hyz : leK CellT.co y z := by
    rcases List.mem_cons.1 hz with rfl | hz
    ·intro e
     rw [cmpI_self] at e
     cases e
    ·exact (List.pairwise_cons.1 hp.2).1 z hz
   have hzx : leK CellT.co z x := by
    unfold leK
    rw [he, cmpI_self]; decide
   exact h1 (leK.antisymm hxy (hyz.trans hzx))
  ·rintro ⟨h1, h2⟩
   exact ⟨fun e => h1 (by rw [e]; simp), h2⟩
theorem dup_perm {l l' : List CellT} (h1 : SortK CellT.co l) (h2 : SortK CellT.co l') (hp : l.Perm l') : dupC l = dupC l' := by
 have e : dupC l = false ↔ dupC l' = false := (dup_iff h1).trans ((hp.map CellT.co).nodup_iff.trans (dup_iff h2).symm)
 cases h : dupC l with
 | false => exact (e.1 h).symm
 | true =>
  cases h' : dupC l' with
  | true => rfl
  | false => rw [e.2 h'] at h; cases h
theorem sorted_same {l l' : List CellT} (h1 : SortK CellT.co l) (h2 : SortK CellT.co l') (hp : l.Perm l') (hd : dupC l = false) : l = l' :=
 sortK_unique hp h1 h2 fun x hx y hy he => by
  have hn := (dup_iff h1).1 hd
  obtain ⟨i, hi, ei⟩ := List.getElem_of_mem hx
  obtain ⟨j, hj, ej⟩ := List.getElem_of_mem hy
  have hij : i = j := by
   have := (List.getElem_inj (h₀ := by simpa using hi) (h₁ := by simpa using hj) hn).1 (by simp [ei, ej, he])
   exact this
  subst hij
  rw [← ei, ← ej]
def makeE (d : List DimT) (a : List AttrT) (l S : List CellT) : Int :=
 if schemaE d a ≠ 0 then schemaE d a else if 4096 < l.length then 9 else if firstE d a l ≠ 0 then firstE d a l else if dupC S = true then 5 else 0
def makeQ (d : List DimT) (a : List AttrT) (l S : List CellT) : ArrT := if makeE d a l S = 0 then ⟨d, a, S⟩ else ⟨[], [], []⟩
theorem makeE_zero {d : List DimT} {a : List AttrT} {l S : List CellT} : makeE d a l S = 0 ↔ schemaE d a = 0 ∧ l.length ≤ 4096 ∧ (∀ c ∈ l, cellE d a c = 0) ∧ dupC S = false := by
 unfold makeE
 by_cases h1 : schemaE d a = 0
 ·rw [if_neg (by simpa using h1)]
  by_cases h2 : 4096 < l.length
  ·rw [if_pos h2]
   constructor
   ·intro h; cases h
   ·rintro ⟨-, h, -⟩; omega
  ·rw [if_neg h2]
   by_cases h3 : firstE d a l = 0
   ·rw [if_neg (by simpa using h3)]
    have h4 := firstE_zero.1 h3
    cases h5 : dupC S with
    | true =>
     rw [if_pos rfl]
     constructor
     ·intro h; cases h
     ·rintro ⟨-, -, -, h⟩; cases h
    | false =>
     rw [if_neg (by decide)]
     exact ⟨fun _ => ⟨h1, by omega, h4, rfl⟩, fun _ => rfl⟩
   ·rw [if_pos h3]
    constructor
    ·intro h; exact absurd h h3
    ·rintro ⟨-, -, h, -⟩; exact absurd (firstE_zero.2 h) h3
 ·rw [if_pos h1]
  constructor
  ·intro h; exact absurd h h1
  ·rintro ⟨h, -⟩; exact absurd h h1
/-- the cells in another order -/
theorem makeQ_perm {d : List DimT} {a : List AttrT} {l l' S S' : List CellT} (hl : l.Perm l') (h1 : SortK CellT.co S) (h2 : SortK CellT.co S') (hS : S.Perm l) (hS' : S'.Perm l') : (makeE d a l S = 0 ↔ makeE d a l' S' = 0) ∧ makeQ d a l S = makeQ d a l' S' := by
 have hp : S.Perm S' := (hS.trans hl).trans hS'.symm
 have hd := dup_perm h1 h2 hp
 have he : makeE d a l S = 0 ↔ makeE d a l' S' = 0 := by
  rw [makeE_zero, makeE_zero, hd, hl.length_eq]
  constructor
  ·rintro ⟨k1, k2, k3, k4⟩; exact ⟨k1, k2, fun c hc => k3 c (hl.mem_iff.2 hc), k4⟩
  ·rintro ⟨k1, k2, k3, k4⟩; exact ⟨k1, k2, fun c hc => k3 c (hl.mem_iff.1 hc), k4⟩
 refine ⟨he, ?_⟩
 unfold makeQ
 by_cases h : makeE d a l S = 0
 ·rw [if_pos h, if_pos (he.1 h), sorted_same h1 h2 hp (makeE_zero.1 h).2.2.2]
 ·rw [if_neg h, if_neg fun h' => h (he.2 h')]
theorem ins_sorted {α : Type} {K : α → List Int} (x : α) : ∀ (S : List α), SortK K S → ∃ T, T.Perm (x :: S) ∧ SortK K T
 | [], _ => ⟨[x], List.Perm.refl _, List.pairwise_singleton _ _⟩
 | y :: r, hs => by
  have hp := List.pairwise_cons.1 hs
  by_cases h : leK K x y
  ·exact ⟨x :: y :: r, List.Perm.refl _, List.pairwise_cons.2 ⟨fun z hz => by
    rcases List.mem_cons.1 hz with rfl | hz
    ·exact h
    ·exact h.trans (hp.1 z hz), hs⟩⟩
  ·have hl : ltK K y x := Classical.byContradiction fun h' => h (not_ltK h')
   obtain ⟨T, ht, hst⟩ := ins_sorted x r hp.2
   exact ⟨y :: T, (ht.cons y).trans (List.Perm.swap x y r), List.pairwise_cons.2 ⟨fun z hz => by
    rcases List.mem_cons.1 (ht.mem_iff.1 hz) with rfl | hz
    ·exact hl.le
    ·exact hp.1 z hz, hst⟩⟩
theorem exists_sorted {α : Type} (K : α → List Int) : ∀ (l : List α), ∃ S, S.Perm l ∧ SortK K S
 | [] => ⟨[], List.Perm.refl _, List.Pairwise.nil⟩
 | x :: r => by
  obtain ⟨S, hp, hs⟩ := exists_sorted K r
  obtain ⟨T, ht, hst⟩ := ins_sorted x S hs
  exact ⟨T, ht.trans (hp.cons x), hst⟩
theorem makeE_schema {d : List DimT} {a : List AttrT} {l S : List CellT} (h : schemaE d a ≠ 0) : makeE d a l S = schemaE d a := by unfold makeE; rw [if_pos h]
theorem makeE_many {d : List DimT} {a : List AttrT} {l S : List CellT} (h : schemaE d a = 0) (h2 : 4096 < l.length) : makeE d a l S = 9 := by unfold makeE; rw [if_neg (by simpa using h), if_pos h2]
theorem makeE_first {d : List DimT} {a : List AttrT} {l S : List CellT} (h : schemaE d a = 0) (h2 : l.length ≤ 4096) (h3 : firstE d a l ≠ 0) : makeE d a l S = firstE d a l := by unfold makeE; rw [if_neg (by simpa using h), if_neg (by omega), if_pos h3]
theorem makeE_dup {d : List DimT} {a : List AttrT} {l S : List CellT} (h : schemaE d a = 0) (h2 : l.length ≤ 4096) (h3 : firstE d a l = 0) (h4 : dupC S = true) : makeE d a l S = 5 := by unfold makeE; rw [if_neg (by simpa using h), if_neg (by omega), if_neg (by simpa using h3), if_pos h4]
theorem makeE_ok {d : List DimT} {a : List AttrT} {l S : List CellT} (h : schemaE d a = 0) (h2 : l.length ≤ 4096) (h3 : firstE d a l = 0) (h4 : dupC S = false) : makeE d a l S = 0 := by unfold makeE; rw [if_neg (by simpa using h), if_neg (by omega), if_neg (by simpa using h3), if_neg (by simp [h4])]
theorem makeQ_bad {d : List DimT} {a : List AttrT} {l S : List CellT} (h : makeE d a l S ≠ 0) : makeQ d a l S = ⟨[], [], []⟩ := by unfold makeQ; rw [if_neg h]
theorem makeQ_ok {d : List DimT} {a : List AttrT} {l S : List CellT} (h : makeE d a l S = 0) : makeQ d a l S = ⟨d, a, S⟩ := by unfold makeQ; rw [if_pos h]
end Go.Proofs.YthlkcppbljpooaaGreatDoor
