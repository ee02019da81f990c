/- ExactSums: the two rows of numbers, and what appending to them keeps. -/
import Derived.Test.YtemhidlaaommaaaGreatDoorFresh
import Derived.Test.YtemhidlaaommaaaGreatDoorL1
import Derived.Test.YtemhidlaaommaaaGreatDoorPtr
import Derived.Test.YtemhidlaaommaaaGreatDoorSum9
namespace Go.Proofs.YtemhidlaaommaaaGreatDoor
open Go.RowKit Go.Shelf

theorem IsN.grownU {B X : Nat} {W W' : World} {v : Value} {row : Option Nat} (h : IsN B W v X) (hg : W.grownBy W' row) (hr : ∀ r, row = some r → ∃ u, W.cell? ⟨r, 0, none⟩ = some u ∧ ∀ k n, u ≠ .int k n) : IsN B W' v X := by
  obtain ⟨n, D, r, s⟩ := h
  refine ⟨n, D, r, ?_⟩
  rcases s with h | ⟨g, cap, e, h1, h2, h3⟩
  · exact .inl h
  · refine .inr ⟨g, cap, e, h1, h2, fun i hi => (hg.cell_far ⟨g, i, none⟩ (World.block_lt_of_cell? W ⟨g, i, none⟩ (h3 i hi)) (fun e => ?_)).trans (h3 i hi)⟩
    obtain ⟨u, hu, hne⟩ := hr g e.symm
    have := h3 0 (by omega)
    rw [hu] at this
    exact hne _ _ (Option.some.inj this)
theorem IsR.grownU {W W' : World} {g : Nat} {q : Rat} {row : Option Nat} (h : IsR W (.pointer (some ⟨g, 0, none⟩)) q) (hg : W.grownBy W' row) (hne : row ≠ some g) (hr : ∀ r, row = some r → ∃ u, W.cell? ⟨r, 0, none⟩ = some u ∧ ∀ k n, u ≠ .int k n) : IsR W' (.pointer (some ⟨g, 0, none⟩)) q := by
  obtain ⟨g', vn, vd, e, ⟨h0, h1, h2, h3, h4⟩⟩ := h
  injection e with e1
  injection e1 with e2
  injection e2 with e3
  subst e3
  have key : ∀ (i : Nat) (u : Value), W.cell? ⟨g, i, none⟩ = some u → W'.cell? ⟨g, i, none⟩ = some u := fun i u hu =>
    (hg.cell_far ⟨g, i, none⟩ (World.block_lt_of_cell? W ⟨g, i, none⟩ hu) (fun e => hne e.symm)).trans hu
  exact ⟨g, vn, vd, rfl, key 0 _ h0, key 1 _ h1, key 2 _ h2, h3.grownU hg hr, h4.grownU hg hr⟩
theorem Q9.grownU {W W' : World} {v : Value} {q : Rat} {row : Option Nat} (h : Q9 W v q) (hg : W.grownBy W' row) (hr : ∀ r, row = some r → ∃ u, W.cell? ⟨r, 0, none⟩ = some u ∧ ∀ k n, u ≠ .int k n) : Q9 W' v q := by
  obtain ⟨vn, vd, e, h1, h2⟩ := h
  exact ⟨vn, vd, e, h1.grownU hg hr, h2.grownU hg hr⟩

abbrev Cel3 := Value × Value × Value
/-- the cells of numbers, three each -/
def row3 (cs : Nat → Cel3) (k : Nat) : List Value := (List.range k).flatMap fun j => [(cs j).1, (cs j).2.1, (cs j).2.2]
theorem row3_succ (cs : Nat → Cel3) (k : Nat) : row3 cs (k + 1) = row3 cs k ++ [(cs k).1, (cs k).2.1, (cs k).2.2] := by
  unfold row3; rw [List.range_succ, List.flatMap_append]; simp
theorem row3_len (cs : Nat → Cel3) (k : Nat) : (row3 cs k).length = k * 3 := by
  induction k with
  | zero => rfl
  | succ k ih => rw [row3_succ, List.length_append, ih]; simp; omega
theorem row3_congr {cs cs' : Nat → Cel3} (k : Nat) (h : ∀ j, j < k → cs j = cs' j) : row3 cs k = row3 cs' k := by
  induction k with
  | zero => rfl
  | succ k ih => rw [row3_succ, row3_succ, ih (fun j hj => h j (by omega)), h k (by omega)]
theorem row3_get {cs : Nat → Cel3} {k j : Nat} (h : j < k) : (row3 cs k)[j * 3]? = some (cs j).1 ∧ (row3 cs k)[j * 3 + 1]? = some (cs j).2.1 ∧ (row3 cs k)[j * 3 + 2]? = some (cs j).2.2 := by
  induction k with
  | zero => omega
  | succ k ih =>
    rw [row3_succ]
    by_cases e : j = k
    · subst e
      refine ⟨?_, ?_, ?_⟩ <;> (rw [List.getElem?_append_right (by rw [row3_len]; omega), row3_len])
      · simp
      · simp [show j * 3 + 1 - j * 3 = 1 from by omega]
      · simp [show j * 3 + 2 - j * 3 = 2 from by omega]
    · obtain ⟨h0, h1, h2⟩ := ih (by omega)
      refine ⟨?_, ?_, ?_⟩ <;> rw [List.getElem?_append_left (by rw [row3_len]; omega)] <;> assumption

/-- two rows, of kx and of kr numbers, out of the first m -/
structure SmS (w0 w : World) (xv rv : Value) (kx kr m : Nat) (es : Nat → Nat) (qs : Nat → Rat) (cs : Nat → Cel3) : Prop where
  xown : w.ownsRow w0.heap.size 22 1 xv kx (rowP (fun j => .pointer (some ⟨es j, 0, none⟩)) kx)
  rown : w.ownsRow w0.heap.size 28 3 rv kr (row3 cs kr)
  num : ∀ j, j < m → IsR w (.pointer (some ⟨es j, 0, none⟩)) (qs j)
  rnum : ∀ j, j < m → Q9 w (.agg #[(cs j).1, (cs j).2.1, (cs j).2.2]) (qs j)
  far : ∀ j, j < m → rv.ownBlock ≠ some (es j)
  le : kx ≤ m ∧ kr ≤ m
  below : Below w0.heap.size w0 w
  xnil : kx = 0 → xv = .slice none 0 0
  rnil : kr = 0 → rv = .slice none 0 0
theorem SmS.start (w : World) : SmS w w (.slice none 0 0) (.slice none 0 0) 0 0 0 (fun _ => 0) (fun _ => 0) (fun _ => (undef, undef, undef)) :=
  ⟨World.ownsRow_nil _ _ _ _, World.ownsRow_nil _ _ _ _, fun _ h => absurd h (Nat.not_lt_zero _), fun _ h => absurd h (Nat.not_lt_zero _), fun _ h => absurd h (Nat.not_lt_zero _), ⟨Nat.le_refl _, Nat.le_refl _⟩, Below.refl _ _, fun _ => rfl, fun _ => rfl⟩
theorem own_later' {w w' : World} {base size n : Nat} {e : TypeId} {v : Value} {xs : List Value} (h : w.ownsRow base e size v n xs) (hb : Below w.heap.size w w') : w'.ownsRow base e size v n xs := by
  refine ⟨h.1, ?_⟩
  rcases h.2 with h0 | ⟨g, cap, cur, hv, hbs, hg, rest⟩
  · exact .inl h0
  · exact .inr ⟨g, cap, cur, hv, hbs, (hb.block g (Array.getElem?_eq_some_iff.1 hg).1).trans hg, rest⟩
theorem SmS.later {w0 w w' : World} {xv rv : Value} {kx kr m : Nat} {es : Nat → Nat} {qs : Nat → Rat} {cs : Nat → Cel3} (h : SmS w0 w xv rv kx kr m es qs cs) (hb : Below w.heap.size w w') : SmS w0 w' xv rv kx kr m es qs cs :=
  ⟨own_later' h.xown hb, own_later' h.rown hb, fun j hj => (h.num j hj).later hb, fun j hj => (h.rnum j hj).later hb, h.far, h.le, below_keep h.below hb, h.xnil, h.rnil⟩
theorem SmS.xfirst {w0 w : World} {xv rv : Value} {kx kr m : Nat} {es : Nat → Nat} {qs : Nat → Rat} {cs : Nat → Cel3} (h : SmS w0 w xv rv kx kr m es qs cs) : ∀ r, xv.ownBlock = some r → ∃ p, w.cell? ⟨r, 0, none⟩ = some (.pointer p) := fun r hr => by
  rcases Nat.eq_zero_or_pos kx with rfl | hk
  · rw [h.xnil rfl] at hr; cases hr
  · exact ⟨_, own_cell h.xown hr hk⟩
theorem SmS.rfirst {w0 w : World} {xv rv : Value} {kx kr m : Nat} {es : Nat → Nat} {qs : Nat → Rat} {cs : Nat → Cel3} (h : SmS w0 w xv rv kx kr m es qs cs) : ∀ r, rv.ownBlock = some r → ∃ b, w.cell? ⟨r, 0, none⟩ = some (.bool b) := fun r hr => by
  rcases Nat.eq_zero_or_pos kr with rfl | hk
  · rw [h.rnil rfl] at hr; cases hr
  · have h0 := h.rown.cells hr _ _ (row3_get (cs := cs) hk).1
    obtain ⟨vn, vd, e, -⟩ := h.rnum 0 (by have := h.le; omega)
    injection e with e1
    have e2 : (cs 0).1 = .bool (qneg (qs 0)) := by
      have := congrArg (fun l : Array Value => l[0]?) e1
      simpa using this
    rw [e2] at h0
    exact ⟨_, by simpa [addP] using h0⟩
/-- the blocks of the two rows differ -/
theorem SmS.apart {w0 w : World} {xv rv : Value} {kx kr m : Nat} {es : Nat → Nat} {qs : Nat → Rat} {cs : Nat → Cel3} (h : SmS w0 w xv rv kx kr m es qs cs) : ∀ r, xv.ownBlock = some r → rv.ownBlock ≠ some r := fun r hr hr' => by
  obtain ⟨p, hp⟩ := h.xfirst r hr
  obtain ⟨b, hb⟩ := h.rfirst r hr'
  rw [hp] at hb; cases hb
theorem SmS.xrow {w0 w : World} {xv rv : Value} {kx kr m : Nat} {es : Nat → Nat} {qs : Nat → Rat} {cs : Nat → Cel3} (h : SmS w0 w xv rv kx kr m es qs cs) : ∀ r, xv.ownBlock = some r → ∃ u, w.cell? ⟨r, 0, none⟩ = some u ∧ ∀ k n, u ≠ .int k n := fun r hr =>
  let ⟨p, hp⟩ := h.xfirst r hr; ⟨_, hp, fun _ _ => by simp⟩
theorem SmS.rrow {w0 w : World} {xv rv : Value} {kx kr m : Nat} {es : Nat → Nat} {qs : Nat → Rat} {cs : Nat → Cel3} (h : SmS w0 w xv rv kx kr m es qs cs) : ∀ r, rv.ownBlock = some r → ∃ u, w.cell? ⟨r, 0, none⟩ = some u ∧ ∀ k n, u ≠ .int k n := fun r hr =>
  let ⟨p, hp⟩ := h.rfirst r hr; ⟨_, hp, fun _ _ => by simp⟩
theorem SmS.putX {w0 w w' : World} {xv rv xv' : Value} {kx kr m : Nat} {es : Nat → Nat} {qs : Nat → Rat} {cs : Nat → Cel3} (h : SmS w0 w xv rv kx kr m es qs cs) (hk : kx < m)
    (hown : w'.ownsRow w0.heap.size 22 1 xv' (kx + 1) (rowP (fun j => .pointer (some ⟨es j, 0, none⟩)) kx ++ [.pointer (some ⟨es kx, 0, none⟩)])) (hg : w.grownBy w' xv.ownBlock) : SmS w0 w' xv' rv (kx + 1) kr m es qs cs := by
  have hne : ∀ j, j < m → xv.ownBlock ≠ some (es j) := fun j hj e => by
    obtain ⟨p, hp⟩ := h.xfirst _ e
    obtain ⟨g', vn, vd, e2, ⟨h0, -⟩⟩ := h.num j hj
    injection e2 with e3; injection e3 with e4; injection e4 with e5; subst e5
    rw [hp] at h0; cases h0
  refine ⟨?_, h.rown.kept hg ?_, fun j hj => (h.num j hj).grownU hg (hne j hj) h.xrow, fun j hj => (h.rnum j hj).grownU hg h.xrow, h.far, ⟨hk, h.le.2⟩, h.below.grown hg h.below.size (fun r hr' => (h.xown.lt r hr').1), fun h => by omega, h.rnil⟩
  · have e : rowP (fun j => .pointer (some ⟨es j, 0, none⟩)) (kx + 1) = rowP (fun j => .pointer (some ⟨es j, 0, none⟩)) kx ++ [.pointer (some ⟨es kx, 0, none⟩)] := by simp [rowP, List.range_succ]
    rw [e]; exact hown
  · cases hr : rv.ownBlock with
    | none => exact .inl rfl
    | some r => exact .inr fun e => h.apart r e.symm hr
theorem SmS.putR {w0 w w' : World} {xv rv rv' : Value} {kx kr m : Nat} {es : Nat → Nat} {qs : Nat → Rat} {cs : Nat → Cel3} (h : SmS w0 w xv rv kx kr m es qs cs) (hk : kr < m)
    (hown : w'.ownsRow w0.heap.size 28 3 rv' (kr + 1) (row3 cs kr ++ [(cs kr).1, (cs kr).2.1, (cs kr).2.2])) (hg : w.grownBy w' rv.ownBlock) (hat : rv.ownBlock = rv'.ownBlock ∨ rv'.ownBlock = some w.heap.size) : SmS w0 w' xv rv' kx (kr + 1) m es qs cs := by
  refine ⟨h.xown.kept hg ?_, by rw [row3_succ]; exact hown, fun j hj => (h.num j hj).grownU hg (h.far j hj) h.rrow, fun j hj => (h.rnum j hj).grownU hg h.rrow, fun j hj => ?_, ⟨h.le.1, hk⟩, h.below.grown hg h.below.size (fun r hr' => (h.rown.lt r hr').1), h.xnil, fun h => by omega⟩
  · cases hr : xv.ownBlock with
    | none => exact .inl rfl
    | some r => exact .inr fun e => h.apart r hr e.symm
  · rcases hat with e | e
    · rw [← e]; exact h.far j hj
    · rw [e]
      intro e2
      obtain ⟨g', vn, vd, e3, ⟨h0, -⟩⟩ := h.num j hj
      injection e3 with e4; injection e4 with e5; injection e5 with e6; subst e6
      have := World.block_lt_of_cell? w ⟨es j, 0, none⟩ h0
      have e7 := Option.some.inj e2
      simp only at this; omega
/-- one more number is known -/
theorem SmS.more {w0 w : World} {xv rv : Value} {kx kr m : Nat} {es : Nat → Nat} {qs : Nat → Rat} {cs : Nat → Cel3} (h : SmS w0 w xv rv kx kr m es qs cs) {e : Nat} {q : Rat} {c : Cel3} (h1 : IsR w (.pointer (some ⟨e, 0, none⟩)) q) (h2 : Q9 w (.agg #[c.1, c.2.1, c.2.2]) q) (h3 : rv.ownBlock ≠ some e) :
    SmS w0 w xv rv kx kr (m + 1) (putV es m e) (putV qs m q) (putV cs m c) := by
  have hx : rowP (fun j => .pointer (some ⟨es j, 0, none⟩)) kx = rowP (fun j => .pointer (some ⟨putV es m e j, 0, none⟩)) kx := rowP_congr kx fun j hj => by
    rw [putV_other es e (by have := h.le; omega)]
  have hr : row3 cs kr = row3 (putV cs m c) kr := by
    exact row3_congr kr fun j hj => (putV_other cs c (by have := h.le; omega)).symm
  refine ⟨by rw [← hx]; exact h.xown, by rw [← hr]; exact h.rown, fun j hj => ?_, fun j hj => ?_, fun j hj => ?_, ⟨by have := h.le; omega, by have := h.le; omega⟩, h.below, h.xnil, h.rnil⟩
  · by_cases e1 : j = m
    · subst e1; rw [putV_same, putV_same]; exact h1
    · rw [putV_other _ _ e1, putV_other _ _ e1]; exact h.num j (by omega)
  · by_cases e1 : j = m
    · subst e1; rw [putV_same, putV_same]; exact h2
    · rw [putV_other _ _ e1, putV_other _ _ e1]; exact h.rnum j (by omega)
  · by_cases e1 : j = m
    · subst e1; rw [putV_same]; exact h3
    · rw [putV_other _ _ e1]; exact h.far j (by omega)
theorem SmS.pts {w0 w : World} {xv rv : Value} {kx kr m : Nat} {es : Nat → Nat} {qs : Nat → Rat} {cs : Nat → Cel3} (h : SmS w0 w xv rv kx kr m es qs cs) : PtS w xv kx (fun j => .pointer (some ⟨es j, 0, none⟩)) := own_pts h.xown
theorem SmS.rts {w0 w : World} {xv rv : Value} {kx kr m : Nat} {es : Nat → Nat} {qs : Nat → Rat} {cs : Nat → Cel3} (h : SmS w0 w xv rv kx kr m es qs cs) : RtS w rv kr qs := by
  rcases h.rown.2 with ⟨e1, e2⟩ | ⟨g, cap, cur, e1, _, hh, hnc, hcm, _, _⟩
  · exact .inl ⟨e1, e2⟩
  · refine .inr ⟨g, cap, e1, hnc, by unfold maxLen at hcm; omega, fun j hj => ?_⟩
    have hg : rv.ownBlock = some g := by rw [e1]; rfl
    obtain ⟨c0, c1, c2⟩ := row3_get (cs := cs) hj
    have d0 := h.rown.cells hg _ _ c0
    have d1 := h.rown.cells hg _ _ c1
    have d2 := h.rown.cells hg _ _ c2
    rw [addP] at d0 d1 d2
    obtain ⟨vn, vd, e, hn, hd⟩ := h.rnum j (by have := h.le; omega)
    injection e with e3
    have f0 : (cs j).1 = .bool (qneg (qs j)) := by have := congrArg (fun l : Array Value => l[0]?) e3; simpa using this
    have f1 : (cs j).2.1 = vn := by have := congrArg (fun l : Array Value => l[1]?) e3; simpa using this
    have f2 : (cs j).2.2 = vd := by have := congrArg (fun l : Array Value => l[2]?) e3; simpa using this
    rw [f0] at d0
    rw [f1] at d1
    rw [f2] at d2
    obtain ⟨a1, n1, k1, rfl, -⟩ := hn.shape (by decide)
    obtain ⟨a2, n2, k2, rfl, -⟩ := hd.shape (by decide)
    exact ⟨a1, n1, k1, a2, n2, k2, d0, d1, d2, hn, hd⟩
end Go.Proofs.YtemhidlaaommaaaGreatDoor
