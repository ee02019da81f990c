/- Lemmas and contracts, each under its own condition: Copies of cells: both contracts. The reference's CopyCell: the contract. (printed by copycell.py) Arrays that are made: lists of cells that were made, and the region that appends one. -/
import Derived.Deep.Upon
import Derived.Deep.DeepCutAuto
import Derived.Deep.CutBlock
import Derived.Test.YthlkcppbljpooaaGreatDoorS11
import Derived.Test.YthlkcppbljpooaaGreatDoorS22
import Derived.Test.YthlkcppbljpooaaGreatDoorS23
import Derived.Test.YthlkcppbljpooaaGreatDoorS28
/- Copies of cells: both contracts. -/
namespace Go.Proofs.YthlkcppbljpooaaGreatDoor
open Go.RowKit

/-- a result: a cell in memory of its own -/
def RetCe (c : CellT) (w : World) (e : Ending) (w' : World) : Prop := ∃ v1 v2, e = .returned (.agg #[v1, v2]) ∧ Ints w' v1 c.co ∧ NewV w.heap.size w' v1 3 ∧ Vals w' v2 c.vals ∧ NewV w.heap.size w' v2 40 ∧ Below w.heap.size w w'
theorem cel_at (w : World) (v1 v2 : Value) : ∃ W1, W1 = (w.alloc (.cells #[v1, v2] 38)).alloc (.cells #[.slice none 0 0, .slice none 0 0] 38) ∧ Below w.heap.size w W1 ∧ ∀ w', Below W1.heap.size W1 w' → (w'.cell? ⟨w.heap.size, 0, none⟩ = some v1 ∧ w'.cell? ⟨w.heap.size, 1, none⟩ = some v2) ∧ ResB w' (w.heap.size + 1) (.slice none 0 0) (.slice none 0 0) ∧ TagB w' (w.heap.size + 1) 38 := by
 have hb1 : Below w.heap.size w (w.alloc (.cells #[v1, v2] 38)) := below_alloc _ _
 have hb2 : Below (w.alloc (.cells #[v1, v2] 38)).heap.size (w.alloc (.cells #[v1, v2] 38)) ((w.alloc (.cells #[v1, v2] 38)).alloc (.cells #[.slice none 0 0, .slice none 0 0] 38)) := below_alloc _ _
 refine ⟨_, rfl, below_keep hb1 hb2, fun w' hb => ?_⟩
 have h1 : ∀ j, w'.cell? ⟨w.heap.size, j, none⟩ = (w.alloc (.cells #[v1, v2] 38)).cell? ⟨w.heap.size, j, none⟩ := fun j => (below_keep hb2 hb).cell (p := ⟨w.heap.size, j, none⟩) (by simp)
 have hr := (ResB.made (w.alloc (.cells #[v1, v2] 38)) 38).later hb (by simp)
 simp only [World.size_alloc] at hr
 refine ⟨⟨by rw [h1, World.cell?_alloc_at _ _ _ _ rfl]; rfl, by rw [h1, World.cell?_alloc_at _ _ _ _ rfl]; rfl⟩, hr, ?_⟩
 have ht : TagB ((w.alloc (.cells #[v1, v2] 38)).alloc (.cells #[.slice none 0 0, .slice none 0 0] 38)) (w.heap.size + 1) 38 := by
  have := World.alloc_heap_new (w.alloc (.cells #[v1, v2] 38)) (.cells #[.slice none 0 0, .slice none 0 0] 38)
  rw [World.size_alloc] at this
  exact ⟨_, _, this⟩
 exact ht.kept (hb.block _ (by simp))
theorem set2_block (z : World) (g b : Nat) (x y : Value) (h : b ≠ g) : ((z.setCell ⟨g, 0, none⟩ x).setCell ⟨g, 1, none⟩ y).heap[b]? = z.heap[b]? :=
 (Below.heap_setCell _ ⟨g, 1, none⟩ y b h).trans (Below.heap_setCell z ⟨g, 0, none⟩ x b h)
theorem cell_done {w z : World} {g : Nat} {c : CellT} {u1 u2 x y : Value} (h1 : Ints z u1 c.co) (t1 : NewV w.heap.size z u1 3) (h2 : Vals z u2 c.vals) (t2 : NewV w.heap.size z u2 40) (ht : TagB z g 38) (hb : Below w.heap.size w z) (hg : w.heap.size ≤ g) :
  Ints ((z.setCell ⟨g, 0, none⟩ x).setCell ⟨g, 1, none⟩ y) u1 c.co ∧ NewV w.heap.size ((z.setCell ⟨g, 0, none⟩ x).setCell ⟨g, 1, none⟩ y) u1 3 ∧ Vals ((z.setCell ⟨g, 0, none⟩ x).setCell ⟨g, 1, none⟩ y) u2 c.vals ∧ NewV w.heap.size ((z.setCell ⟨g, 0, none⟩ x).setCell ⟨g, 1, none⟩ y) u2 40 ∧ Below w.heap.size w ((z.setCell ⟨g, 0, none⟩ x).setCell ⟨g, 1, none⟩ y) := by
 have n1 : ∀ b, u1.ownBlock = some b → b ≠ g := fun b hb => (t1.tag b hb).ne ht (by decide)
 have n2 : ∀ b, u2.ownBlock = some b → b ≠ g := fun b hb => (t2.tag b hb).ne ht (by decide)
 exact ⟨h1.kept IntR.local (fun b hb => set2_block z g b x y (n1 b hb)), t1.kept (fun b hb => set2_block z g b x y (n1 b hb)), h2.kept ValR.local (fun b hb => set2_block z g b x y (n2 b hb)), t2.kept (fun b hb => set2_block z g b x y (n2 b hb)), (hb.setCell (p := ⟨g, 0, none⟩) hg _).setCell (p := ⟨g, 1, none⟩) hg _⟩
set_option maxHeartbeats 8000000 in
set_option maxRecDepth 100000 in
theorem copied_any (c : CellT) (v1 v2 : Value) (w : World) (h1 : Ints w v1 c.co) (h2 : Vals w v2 c.vals) (l1 : c.co.length ≤ 1000000) (l2 : c.vals.length ≤ 1000000) :
  Calls Tryz.prog 76 #[.agg #[v1, v2]] w (RetCe c w) := by
 have CI := Lib.hid (fun w1 (hb : Below w.heap.size w w1) => (cloneInt_any c.co v1 w1 (h1.later IntR.lasts hb) l1).mono fun e w' h => RetCpL.low h hb.size)
 have CV := Lib.hid (fun w1 (hb : Below w.heap.size w w1) => (cloneVal_any c.vals v2 w1 (h2.later ValR.lasts hb) l2).mono fun e w' h => RetCpL.low h hb.size)
 obtain ⟨p1, k1, rfl, -⟩ := h1.shape
 obtain ⟨p2, k2, rfl, -⟩ := h2.shape
 obtain ⟨W, hW, hbW, hx⟩ := cel_at w (.slice p1 c.co.length k1) (.slice p2 c.vals.length k2)
 have HBW := Lib.hid hbW
 have HX := Lib.hid hx
 obtain ⟨⟨c0, c1⟩, ⟨r0, r1, r2, r3⟩, -⟩ := hx W (Below.refl _ _)
 clear h1 h2 l1 l2 hbW hx
 go_enter Tryz.func76, Tryz.ntmps76
 go_wp2_with fail
 rw [← hW]
 clear hW
 go_region_with (first
  | (go_at_call 83; first
    | (refine (CI.out _ (below_keep HBW.out (Below.refl _ _).drew)).mono ?_; rintro e zz ⟨u1, rfl, f1, t1, hb1⟩; have hz1 : Below W.heap.size W zz := below_keep (Below.refl _ _).drew hb1; obtain ⟨⟨c0, c1⟩, ⟨r0, r1, r2, r3⟩, -⟩ := HX.out zz hz1; obtain ⟨a1, b1, rfl, -⟩ := f1.shape)
    | (refine (CI.out _ (below_keep HBW.out hz2)).mono ?_; rintro e zz ⟨u1, rfl, f1, t1, hb1⟩; have hz1 : Below W.heap.size W zz := below_keep hz2 hb1; obtain ⟨⟨c0, c1⟩, ⟨r0, r1, r2, r3⟩, htg⟩ := HX.out zz hz1; obtain ⟨a1, b1, rfl, -⟩ := f1.shape; have HF := Lib.hid (And.intro f1 (And.intro t1 (And.intro (f2.later ValR.lasts hb1) (And.intro (t2.later hb1) (And.intro htg hz1)))))))
  | (go_at_call 105; first
    | (refine (CV.out _ (below_keep HBW.out (Below.refl _ _).drew)).mono ?_; rintro e zz ⟨u2, rfl, f2, t2, hb2⟩; have hz2 : Below W.heap.size W zz := below_keep (Below.refl _ _).drew hb2; obtain ⟨⟨c0, c1⟩, ⟨r0, r1, r2, r3⟩, -⟩ := HX.out zz hz2; obtain ⟨a2, b2, rfl, -⟩ := f2.shape)
    | (refine (CV.out _ (below_keep HBW.out hz1)).mono ?_; rintro e zz ⟨u2, rfl, f2, t2, hb2⟩; have hz2 : Below W.heap.size W zz := below_keep hz1 hb2; obtain ⟨⟨c0, c1⟩, ⟨r0, r1, r2, r3⟩, htg⟩ := HX.out zz hz2; obtain ⟨a2, b2, rfl, -⟩ := f2.shape; have HF := Lib.hid (And.intro (f1.later IntR.lasts hb2) (And.intro (t1.later hb2) (And.intro f2 (And.intro t2 (And.intro htg hz2))))))))
 all_goals
  obtain ⟨e1, e2, e3, e4, e5, e6⟩ := HF.out
  obtain ⟨-, ⟨r0, r1, r2, r3⟩, -⟩ := HX.out zz e6
  have HD := Lib.hid (fun x y => cell_done (w := w) (x := x) (y := y) e1 e2 e3 e4 e5 (below_keep HBW.out e6) (Nat.le_succ _))
  clear e1 e2 e3 e4 e5 e6
  go_wp2
  refine bodyPost_ret (by simp [results, Tryz.results76, go_sem, r0, r1]; try rfl) rfl ?_
  obtain ⟨q1, q2, q3, q4, q5⟩ := HD.out (.slice a1 c.co.length b1) (.slice a2 c.vals.length b2)
  exact ⟨_, _, rfl, q1, q2, q3, q4, q5⟩
end Go.Proofs.YthlkcppbljpooaaGreatDoor
/- The reference's CopyCell: the contract. (printed by copycell.py) -/
namespace Go.Proofs.YthlkcppbljpooaaGreatDoor
open Go.RowKit

/-- what is known while a cell is copied -/
structure CcJ (VL : List (Option Value)) (W : World) (g : Nat) (c : CellT) (dn : Nat → Bool) (vals : Nat → Value) (w : World) : Prop where
 s : dn 9 = false → Below W.heap.size W w
 f0 : dn 0 = true → dn 3 = false → w.ownsRow W.heap.size 3 1 (vals 0) 0 []
 f3 : dn 3 = true → dn 9 = false → Ints w (vals 3) c.co ∧ NewV W.heap.size w (vals 3) 3
 f4 : dn 4 = true → dn 7 = false → w.ownsRow W.heap.size 40 4 (vals 4) 0 []
 f7 : dn 7 = true → dn 9 = false → Vals w (vals 7) c.vals ∧ NewV W.heap.size w (vals 7) 40
 f8 : dn 8 = true → vals 8 = .agg #[vals 3, vals 7] ∧ dn 3 = true ∧ dn 7 = true
 post : dn 9 = true → ∃ z, Below W.heap.size W z ∧ Ints z (vals 3) c.co ∧ NewV W.heap.size z (vals 3) 3 ∧ Vals z (vals 7) c.vals ∧ NewV W.heap.size z (vals 7) 40 ∧ w = (z.setCell ⟨g, 0, none⟩ (vals 3)).setCell ⟨g, 1, none⟩ (vals 7)
 fv : Told VL dn vals
section
variable {VL : List (Option Value)} {W : World} {g : Nat} {c : CellT} {dn : Nat → Bool} {vals : Nat → Value} {w : World}
theorem CcJ.start : CcJ VL W g c (fun _ => false) (fun _ => undef) { W with drawn := W.drawn + 1 } :=
 ⟨fun _ => (Below.refl _ _).drew, fun h => Bool.noConfusion h, fun h => Bool.noConfusion h, fun h => Bool.noConfusion h, fun h => Bool.noConfusion h, fun h => Bool.noConfusion h, fun h => Bool.noConfusion h, fun _ _ _ h => Bool.noConfusion h⟩
end
end Go.Proofs.YthlkcppbljpooaaGreatDoor
/- Arrays that are made: lists of cells that were made, and the region that appends one. -/
namespace Go.Proofs.YthlkcppbljpooaaGreatDoor
open Go.RowKit

structure CeO (n : Nat) (w : World) (u1 u2 : Value) (c : CellT) : Prop where
 i : Ints w u1 c.co
 ti : NewV n w u1 3
 v : Vals w u2 c.vals
 tv : NewV n w u2 40
theorem CeO.grown {n : Nat} {w w' : World} {u1 u2 : Value} {c : CellT} {row : Option Nat} (h : CeO n w u1 u2 c) (hg : w.grownBy w' row) (hr : ∀ r, row = some r → ¬ TagB w r 3 ∧ ¬ TagB w r 40) : CeO n w' u1 u2 c := by
 have k1 : ∀ b, u1.ownBlock = some b → w'.heap[b]? = w.heap[b]? := fun b hb => hg.block b (h.ti.tag b hb).lt (fun e => (hr b e.symm).1 (h.ti.tag b hb))
 have k2 : ∀ b, u2.ownBlock = some b → w'.heap[b]? = w.heap[b]? := fun b hb => hg.block b (h.tv.tag b hb).lt (fun e => (hr b e.symm).2 (h.tv.tag b hb))
 exact ⟨h.i.kept IntR.local k1, h.ti.kept k1, h.v.kept ValR.local k2, h.tv.kept k2⟩
theorem CeO.later {n : Nat} {w w' : World} {u1 u2 : Value} {c : CellT} (h : CeO n w u1 u2 c) (hb : Below w.heap.size w w') : CeO n w' u1 u2 c := h.grown (row := none) (grown_of_below hb none) (fun r e => by cases e)
theorem CeO.base {n m : Nat} {w : World} {u1 u2 : Value} {c : CellT} (h : CeO n w u1 u2 c) (hn : m ≤ n) : CeO m w u1 u2 c := ⟨h.i, h.ti.base hn, h.v, h.tv.base hn⟩
/-- a slice of cells that the call has made -/
structure CellsO (n₀ : Nat) (w : World) (v : Value) (l : List CellT) : Prop where
 ex : ∃ us : List (Value × Value), us.length = l.length ∧ w.ownsRow n₀ 38 2 v l.length (us.flatMap fun u => [u.1, u.2]) ∧ ∀ (i : Nat) (c : CellT) (u : Value × Value), l[i]? = some c → us[i]? = some u → CeO n₀ w u.1 u.2 c
theorem not_tag {w : World} {r : Nat} {T : TypeId} (h : TagB w r T) (h1 : T ≠ 3) (h2 : T ≠ 40) : ¬ TagB w r 3 ∧ ¬ TagB w r 40 :=
 ⟨fun h' => h.ne h' h1 rfl, fun h' => h.ne h' h2 rfl⟩
theorem CellsO.nil (n₀ : Nat) (w : World) : CellsO n₀ w (.slice none 0 0) [] := ⟨[], rfl, World.ownsRow_nil _ _ _ _, fun i x u h => by simp at h⟩
theorem CellsO.tag {n₀ : Nat} {w : World} {v : Value} {l : List CellT} (h : CellsO n₀ w v l) : TagV w v 38 := by
 obtain ⟨us, -, ho, -⟩ := h.ex
 exact ownsRow_tag ho
theorem CellsO.lt {n₀ : Nat} {w : World} {v : Value} {l : List CellT} (h : CellsO n₀ w v l) : ∀ k, v.ownBlock = some k → n₀ ≤ k := by
 obtain ⟨us, -, ho, -⟩ := h.ex
 exact fun k e => (ho.lt k e).1
theorem CellsO.kept {n₀ : Nat} {w w' : World} {v : Value} {l : List CellT} {row : Option Nat} (h : CellsO n₀ w v l) (hg : w.grownBy w' row) (h1 : ∀ r, row = some r → v.ownBlock ≠ some r) (h2 : ∀ r, row = some r → ¬ TagB w r 3 ∧ ¬ TagB w r 40) : CellsO n₀ w' v l := by
 obtain ⟨us, hl, ho, hx⟩ := h
 refine ⟨us, hl, ho.kept hg ?_, fun i x u hi hu => (hx i x u hi hu).grown hg h2⟩
 cases hv : v.ownBlock with
 | none => exact .inl rfl
 | some b => exact .inr fun e => h1 b e.symm hv
theorem CellsO.later {n₀ : Nat} {w w' : World} {v : Value} {l : List CellT} (h : CellsO n₀ w v l) (hb : Below w.heap.size w w') : CellsO n₀ w' v l :=
 h.kept (row := none) (grown_of_below hb none) (fun r e => by cases e) (fun r e => by cases e)
theorem CellsO.base {n₀ n : Nat} {w : World} {v : Value} {l : List CellT} (h : CellsO n w v l) (hn : n₀ ≤ n) : CellsO n₀ w v l := by
 obtain ⟨us, hl, ho, hx⟩ := h
 refine ⟨us, hl, ⟨ho.1, ?_⟩, fun i c u hi hu => (hx i c u hi hu).base hn⟩
 rcases ho.2 with h | ⟨g, cap, cur, e, h1, h2⟩
 ·exact .inl h
 ·exact .inr ⟨g, cap, cur, e, Nat.le_trans hn h1, h2⟩
theorem CellsO.snoc {n₀ : Nat} {w w' : World} {v v' u1 u2 : Value} {l : List CellT} {c : CellT} {us : List (Value × Value)} (hl : us.length = l.length) (ho : w.ownsRow n₀ 38 2 v l.length (us.flatMap fun u => [u.1, u.2])) (hx : ∀ (i : Nat) (c : CellT) (u : Value × Value), l[i]? = some c → us[i]? = some u → CeO n₀ w u.1 u.2 c)
  (hn : w'.ownsRow n₀ 38 2 v' (l.length + 1) ((us.flatMap fun u => [u.1, u.2]) ++ [u1, u2])) (hg : w.grownBy w' v.ownBlock) (hu : CeO n₀ w u1 u2 c) : CellsO n₀ w' v' (l ++ [c]) := by
 have hk : ∀ u1 u2 c, CeO n₀ w u1 u2 c → CeO n₀ w' u1 u2 c := fun u1 u2 c h => h.grown hg fun r e => not_tag (ownsRow_tag ho r e) (by decide) (by decide)
 refine ⟨us ++ [(u1, u2)], by simp [hl], by simpa using hn, fun i y z hi hz => ?_⟩
 by_cases hlt : i < l.length
 ·rw [List.getElem?_append_left hlt] at hi
  rw [List.getElem?_append_left (by omega)] at hz
  exact hk _ _ _ (hx i y z hi hz)
 ·rw [List.getElem?_append_right (by omega)] at hi hz
  rw [hl] at hz
  have h0 : i - l.length = 0 := by
   have := (List.getElem?_eq_some_iff.1 hi).1
   simp at this; omega
  rw [h0] at hi hz
  simp only [List.getElem?_cons_zero, Option.some.injEq] at hi hz
  subst hi hz
  exact hk _ _ _ hu
theorem CellsO.cells {n₀ : Nat} {w : World} {v : Value} {l : List CellT} (h : CellsO n₀ w v l) : CellsA w v l := by
 obtain ⟨us, hl, ho, hx⟩ := h
 have hc : ∀ {g : Nat}, v.ownBlock = some g → ∀ j u, (us.flatMap fun u => [u.1, u.2])[j]? = some u → w.cell? ((⟨g, 0, none⟩ : Addr).add j) = some u := fun hg => ho.cells hg
 rcases ho.2 with ⟨rfl, h0⟩ | ⟨g, cap, cur, rfl, h1, h2, h3, h4, h5, h6⟩
 ·have : l = [] := List.length_eq_zero_iff.1 h0
  subst this
  exact Ls.nil _ _ _ (by omega)
 ·unfold maxLen at h4
  refine ⟨_, cap, rfl, h3, h4, fun h0 => ⟨g, 0, rfl, fun i x hi => ?_⟩⟩
  have hlt : i < us.length := by rw [hl]; exact (List.getElem?_eq_some_iff.1 hi).1
  have hu := List.getElem?_eq_getElem hlt
  have f0 := flat_at (k := 2) (f := fun u : Value × Value => [u.1, u.2]) (fun _ => rfl) us i us[i] 0 us[i].1 hu rfl
  have f1 := flat_at (k := 2) (f := fun u : Value × Value => [u.1, u.2]) (fun _ => rfl) us i us[i] 1 us[i].2 hu rfl
  have e0 := hc (g := g) rfl _ _ f0
  have e1 := hc (g := g) rfl _ _ f1
  rw [show (⟨g, 0, none⟩ : Addr).add (i * 2 + 0) = ⟨g, 0 + i * 2, none⟩ from by unfold Addr.add; split <;> simp_all] at e0
  rw [show (⟨g, 0, none⟩ : Addr).add (i * 2 + 1) = ⟨g, 0 + i * 2 + 1, none⟩ from by unfold Addr.add; split <;> simp_all] at e1
  have hce := hx i x us[i] hi hu
  exact ⟨us[i].1, us[i].2, e0, e1, hce.i, hce.v⟩
/-- an array's block, and what is in it -/
structure OutB (n₀ g : Nat) (w : World) (d1 d2 s u : Value) (D : List DimT) (A : List AttrT) (L : List CellT) : Prop where
 c0 : w.cell? ⟨g, 0, none⟩ = some d1
 c1 : w.cell? ⟨g, 1, none⟩ = some d2
 c2 : w.cell? ⟨g, 2, none⟩ = some s
 f2 : w.frozen? ⟨g, 2, none⟩ = false
 dm : Dims w d1 D
 td : TagV w d1 43
 at' : Attrs w d2 A
 ta : TagV w d2 45
 own : CellsO n₀ w u L
 tag : TagB w g 29
section
variable {n₀ g : Nat} {w w' : World} {d1 d2 s u v' : Value} {D : List DimT} {A : List AttrT} {L : List CellT}
theorem OutB.part (h : OutB n₀ g w d1 d2 s u D A L) {row : Option Nat} (hg : w.grownBy w' row) (hr : ∀ r, row = some r → TagB w r 38) {u' : Value} {L' : List CellT} (ho : CellsO n₀ w' u' L') : OutB n₀ g w' d1 d2 s u' D A L' := by
 have hbl : ∀ b T, TagB w b T → T ≠ 38 → w'.heap[b]? = w.heap[b]? := fun b T hb hT => hg.block b hb.lt (fun e => hb.ne (hr b e.symm) hT rfl)
 have hgb := hbl g _ h.tag (by decide)
 have k1 : ∀ b, d1.ownBlock = some b → w'.heap[b]? = w.heap[b]? := fun b hb => hbl b _ (h.td b hb) (by decide)
 have k2 : ∀ b, d2.ownBlock = some b → w'.heap[b]? = w.heap[b]? := fun b hb => hbl b _ (h.ta b hb) (by decide)
 exact ⟨(World.cell?_of_block (a := ⟨g, 0, none⟩) hgb).trans h.c0, (World.cell?_of_block (a := ⟨g, 1, none⟩) hgb).trans h.c1, (World.cell?_of_block (a := ⟨g, 2, none⟩) hgb).trans h.c2, (World.frozen?_of_block (a := ⟨g, 2, none⟩) hgb).trans h.f2,
  h.dm.kept DimR.local k1, h.td.kept k1, h.at'.kept AttrR.local k2, h.ta.kept k2, ho, h.tag.kept hgb⟩
theorem OutB.later (h : OutB n₀ g w d1 d2 s u D A L) (hb : Below w.heap.size w w') : OutB n₀ g w' d1 d2 s u D A L := h.part (row := none) (grown_of_below hb none) (fun r e => by cases e) (h.own.later hb)
theorem OutB.st (h : OutB n₀ g w d1 d2 s u D A L) : OutB n₀ g (w.setCell ⟨g, 2, none⟩ u) d1 d2 u u D A L := by
 have hne : ∀ b T, TagB w b T → T ≠ 29 → b ≠ g := fun b T hb hT => hb.ne h.tag hT
 have k1 : ∀ b, d1.ownBlock = some b → (w.setCell ⟨g, 2, none⟩ u).heap[b]? = w.heap[b]? := fun b hb => Below.heap_setCell w ⟨g, 2, none⟩ u b (hne b _ (h.td b hb) (by decide))
 have k2 : ∀ b, d2.ownBlock = some b → (w.setCell ⟨g, 2, none⟩ u).heap[b]? = w.heap[b]? := fun b hb => Below.heap_setCell w ⟨g, 2, none⟩ u b (hne b _ (h.ta b hb) (by decide))
 refine ⟨?_, ?_, World.cell?_setCell_same _ _ _ h.c2, by rw [World.frozen?_setCell]; exact h.f2, h.dm.kept DimR.local k1, h.td.kept k1, h.at'.kept AttrR.local k2, h.ta.kept k2, h.own.kept (grown_setG w g 2 u) (fun r e e2 => ?_) (fun r e => ?_), h.tag.setCell _ _⟩
 ·rw [World.cell?_setCell_other _ _ _ _ (fun e => by injection e with _ e; cases e)]; exact h.c0
 ·rw [World.cell?_setCell_other _ _ _ _ (fun e => by injection e with _ e; cases e)]; exact h.c1
 ·cases e
  exact (h.own.tag g e2).ne h.tag (by decide) rfl
 ·cases e
  exact not_tag h.tag (by decide) (by decide)
end
/-- what is known while a cell is appended -/
structure CoJ (VL : List (Option Value)) (jc jb ja js n₀ g : Nat) (W : World) (d1 d2 v : Value) (D : List DimT) (A : List AttrT) (L : List CellT) (c : CellT) (dn : Nat → Bool) (vals : Nat → Value) (w : World) : Prop where
 below : Below n₀ W w
 kp : ∀ b, b < W.heap.size → b ≠ g → v.ownBlock ≠ some b → w.heap[b]? = W.heap[b]?
 pre : dn ja = false → dn js = false → Below W.heap.size W w
 s0 : dn ja = false → dn js = false → OutB n₀ g w d1 d2 v v D A L
 s1 : dn ja = true → dn js = false → OutB n₀ g w d1 d2 v (vals ja) D A (L ++ [c])
 s2 : dn js = true → OutB n₀ g w d1 d2 (vals ja) (vals ja) D A (L ++ [c])
 fc : dn jc = true → dn ja = false → ∃ u1 u2, vals jc = .agg #[u1, u2] ∧ CeO n₀ w u1 u2 c
 fb : dn jb = true → dn ja = false → ∃ b u1 u2, vals jb = .slice (some ⟨b, 0, none⟩) 1 1 ∧ w.cell? ⟨b, 0, none⟩ = some u1 ∧ w.cell? ⟨b, 1, none⟩ = some u2 ∧ CeO n₀ w u1 u2 c
 fv : Told VL dn vals
section
variable {VL : List (Option Value)} {jc jb ja js n₀ g : Nat} {W : World} {d1 d2 v : Value} {D : List DimT} {A : List AttrT} {L : List CellT} {c : CellT} {dn : Nat → Bool} {vals : Nat → Value} {w w' : World}
theorem CoJ.start (h0 : OutB n₀ g W d1 d2 v v D A L) : CoJ VL jc jb ja js n₀ g W d1 d2 v D A L c (fun _ => false) (fun _ => undef) { W with drawn := W.drawn + 1 } :=
 ⟨(Below.refl _ _).drew, fun _ _ _ _ => rfl, fun _ _ => (Below.refl _ _).drew, fun _ _ => h0.later (Below.refl _ _).drew, fun h => Bool.noConfusion h, fun h => Bool.noConfusion h, fun h => Bool.noConfusion h, fun h => Bool.noConfusion h, fun _ _ _ h => Bool.noConfusion h⟩
/-- a step that leaves all that is there -/
theorem CoJ.step {i : Nat} {x : Value} (h : CoJ VL jc jb ja js n₀ g W d1 d2 v D A L c dn vals w) (hn : n₀ ≤ w.heap.size) (hc : jc ≠ i) (hb : jb ≠ i) (ha : ja ≠ i) (hs : js ≠ i) (hv : VL[i]? = some (some x) ∨ VL[i]? = some none) (hw : Below w.heap.size w w') : CoJ VL jc jb ja js n₀ g W d1 d2 v D A L c (upd dn i) (updV vals i x) w' := by
 refine ⟨h.below.trans (hw.mono hn), fun b hb1 hb2 hb3 => (hw.block b (Nat.lt_of_lt_of_le hb1 h.below.size)).trans (h.kp b hb1 hb2 hb3), ?_, ?_, ?_, ?_, ?_, ?_, h.fv.step hv⟩
 ·rw [upd_ne ha, upd_ne hs]; exact fun h1 h2 => below_keep (h.pre h1 h2) hw
 ·rw [upd_ne ha, upd_ne hs]; exact fun h1 h2 => (h.s0 h1 h2).later hw
 ·rw [upd_ne ha, upd_ne hs, updV_ne ha]; exact fun h1 h2 => (h.s1 h1 h2).later hw
 ·rw [upd_ne hs, updV_ne ha]; exact fun h1 => (h.s2 h1).later hw
 ·rw [upd_ne hc, upd_ne ha, updV_ne hc]
  intro h1 h2
  obtain ⟨u1, u2, e, k⟩ := h.fc h1 h2
  exact ⟨u1, u2, e, k.later hw⟩
 ·rw [upd_ne hb, upd_ne ha, updV_ne hb]
  intro h1 h2
  obtain ⟨b, u1, u2, e, k1, k2, k3⟩ := h.fb h1 h2
  exact ⟨b, u1, u2, e, cell_later k1 hw, cell_later k2 hw, k3.later hw⟩
theorem CoJ.call (h : CoJ VL jc jb ja js n₀ g W d1 d2 v D A L c dn vals w) (hn : n₀ ≤ w.heap.size) (hb : jb ≠ jc) (ha : ja ≠ jc) (hs : js ≠ jc) (nb : dn jb = false) (hv : VL[jc]? = some none) (hw : Below w.heap.size w w') {u1 u2 : Value} (hu : CeO n₀ w' u1 u2 c) : CoJ VL jc jb ja js n₀ g W d1 d2 v D A L c (upd dn jc) (updV vals jc (.agg #[u1, u2])) w' := by
 refine ⟨h.below.trans (hw.mono hn), fun b hb1 hb2 hb3 => (hw.block b (Nat.lt_of_lt_of_le hb1 h.below.size)).trans (h.kp b hb1 hb2 hb3), ?_, ?_, ?_, ?_, ?_, ?_, h.fv.step (.inr hv)⟩
 ·rw [upd_ne ha, upd_ne hs]; exact fun h1 h2 => below_keep (h.pre h1 h2) hw
 ·rw [upd_ne ha, upd_ne hs]; exact fun h1 h2 => (h.s0 h1 h2).later hw
 ·rw [upd_ne ha, upd_ne hs, updV_ne ha]; exact fun h1 h2 => (h.s1 h1 h2).later hw
 ·rw [upd_ne hs, updV_ne ha]; exact fun h1 => (h.s2 h1).later hw
 ·intro _ _; rw [updV_at]; exact ⟨u1, u2, rfl, hu⟩
 ·rw [upd_ne hb, nb]; exact fun h => Bool.noConfusion h
theorem CoJ.build (h : CoJ VL jc jb ja js n₀ g W d1 d2 v D A L c dn vals w) (hn : n₀ ≤ w.heap.size) (hc : jc ≠ jb) (ha : ja ≠ jb) (hs : js ≠ jb) (hv : VL[jb]? = some none) {u1 u2 : Value} (hu : CeO n₀ w u1 u2 c) : CoJ VL jc jb ja js n₀ g W d1 d2 v D A L c (upd dn jb) (updV vals jb (.slice (some ⟨w.heap.size, 0, none⟩) 1 1)) (w.alloc (.cells #[u1, u2] 38)) := by
 have hw : Below w.heap.size w (w.alloc (.cells #[u1, u2] 38)) := below_alloc _ _
 refine ⟨h.below.trans (hw.mono hn), fun b hb1 hb2 hb3 => (hw.block b (Nat.lt_of_lt_of_le hb1 h.below.size)).trans (h.kp b hb1 hb2 hb3), ?_, ?_, ?_, ?_, ?_, ?_, h.fv.step (.inr hv)⟩
 ·rw [upd_ne ha, upd_ne hs]; exact fun h1 h2 => below_keep (h.pre h1 h2) hw
 ·rw [upd_ne ha, upd_ne hs]; exact fun h1 h2 => (h.s0 h1 h2).later hw
 ·rw [upd_ne ha, upd_ne hs, updV_ne ha]; exact fun h1 h2 => (h.s1 h1 h2).later hw
 ·rw [upd_ne hs, updV_ne ha]; exact fun h1 => (h.s2 h1).later hw
 ·rw [upd_ne hc, upd_ne ha, updV_ne hc]
  intro h1 h2
  obtain ⟨u1, u2, e, k⟩ := h.fc h1 h2
  exact ⟨u1, u2, e, k.later hw⟩
 ·intro _ _; rw [updV_at]
  exact ⟨_, u1, u2, rfl, by rw [World.cell?_alloc_at _ _ _ _ rfl]; rfl, by rw [World.cell?_alloc_at _ _ _ _ rfl]; rfl, hu.later hw⟩
theorem CoJ.append (h : CoJ VL jc jb ja js n₀ g W d1 d2 v D A L c dn vals w) (hn : n₀ ≤ w.heap.size) (hs : js ≠ ja) (hv : VL[ja]? = some none) (na : dn ja = false) (ns : dn js = false) {x : Value} (hg : w.grownBy w' v.ownBlock) (ho : CellsO n₀ w' x (L ++ [c])) : CoJ VL jc jb ja js n₀ g W d1 d2 v D A L c (upd dn ja) (updV vals ja x) w' := by
 have hS := h.s0 na ns
 refine ⟨h.below.grown hg hn (fun k e => hS.own.lt k e), fun b hb1 hb2 hb3 => (hg.block b (Nat.lt_of_lt_of_le hb1 h.below.size) (fun e => hb3 e.symm)).trans (h.kp b hb1 hb2 hb3), ?_, ?_, ?_, ?_, ?_, ?_, h.fv.step (.inr hv)⟩
 ·rw [upd_at]; exact fun h => Bool.noConfusion h
 ·rw [upd_at]; exact fun h => Bool.noConfusion h
 ·rw [updV_at]; exact fun _ _ => hS.part hg (fun r e => hS.own.tag r e) ho
 ·rw [upd_ne hs, ns]; exact fun h => Bool.noConfusion h
 ·rw [upd_at]; exact fun _ h => Bool.noConfusion h
 ·rw [upd_at]; exact fun _ h => Bool.noConfusion h
theorem CoJ.store (h : CoJ VL jc jb ja js n₀ g W d1 d2 v D A L c dn vals w) (hgn : n₀ ≤ g) (ha : ja ≠ js) (hv : VL[js]? = some none) (da : dn ja = true) (ns : dn js = false) {x : Value} : CoJ VL jc jb ja js n₀ g W d1 d2 v D A L c (upd dn js) (updV vals js x) (w.setCell ⟨g, 2, none⟩ (vals ja)) := by
 have hS := (h.s1 da ns).st
 refine ⟨h.below.setCell (p := ⟨g, 2, none⟩) hgn _, fun b hb1 hb2 hb3 => (Below.heap_setCell w ⟨g, 2, none⟩ _ b hb2).trans (h.kp b hb1 hb2 hb3), ?_, ?_, ?_, ?_, ?_, ?_, h.fv.step (.inr hv)⟩
 ·rw [upd_at]; exact fun _ h => Bool.noConfusion h
 ·rw [upd_at]; exact fun _ h => Bool.noConfusion h
 ·rw [upd_at]; exact fun _ h => Bool.noConfusion h
 ·rw [updV_ne ha]; exact fun _ => hS
 ·rw [upd_ne ha, da]; exact fun _ h => Bool.noConfusion h
 ·rw [upd_ne ha, da]; exact fun _ h => Bool.noConfusion h
end
/-- a result: an array in memory of its own -/
def RetAr (x : ArrT) (w : World) (e : Ending) (w' : World) : Prop := ∃ v1 v2 v3, e = .returned (.agg #[v1, v2, v3]) ∧ Dims w' v1 x.dims ∧ TagV w' v1 43 ∧ Attrs w' v2 x.attrs ∧ TagV w' v2 45 ∧ CellsO w.heap.size w' v3 x.cells ∧ Below w.heap.size w w'
end Go.Proofs.YthlkcppbljpooaaGreatDoor
