/- Lemmas and contracts, each under its own condition: Hull: plain words; regions with two stores; the two lists that are made at the start. space.Hull: the contract. (printed by hull.py) Hull of the reference: the region that copies the first cell's coordinates twice. The reference's Hull: the contract. (printed by rhull.py) -/
import Derived.BigQuiet
import Derived.Deep.DeepCutAuto
import Derived.Deep.CutBlock
import Derived.Test.YtkliekoheeeamaaGreatDoorS19
import Derived.Test.YtkliekoheeeamaaGreatDoorS21
import Derived.Test.YtkliekoheeeamaaGreatDoorS30
import Derived.Test.YtkliekoheeeamaaGreatDoorS35
import Derived.Test.YtkliekoheeeamaaGreatDoorS5
import Derived.Test.YtkliekoheeeamaaGreatDoorS8
/- Hull: plain words; regions with two stores; the two lists that are made at the start. -/
namespace Go.Proofs.YtkliekoheeeamaaGreatDoor
open Go.RowKit

def hullF (m : List Int × List Int) (c : CellT) : List Int × List Int := (List.zipWith min m.1 c.co, List.zipWith max m.2 c.co)
/-- the bounds of some cells, from these bounds on -/
def hullL (m : List Int × List Int) (l : List CellT) : List Int × List Int := l.foldl hullF m
def hullQ (x : ArrT) : Option (List Int × List Int) := if checkE x ≠ 0 then none else match x.cells with
 | [] => none
 | c :: l => some (hullL (c.co, c.co) (c :: l))
theorem cellsL_mem {d : List DimT} {a : List AttrT} : ∀ (b : Option CellT) (l : List CellT), cellsL d a b l = 0 → ∀ c ∈ l, cellE d a c = 0
 | _, [], _, c, hc => by cases hc
 | none, x :: r, h, c, hc => by
  rw [cellsL] at h
  split at h
  ·rename_i h1; exact absurd h h1
  ·rename_i h1
   rcases List.mem_cons.1 hc with e | e
   ·subst e; exact Classical.not_not.1 h1
   ·exact cellsL_mem _ r h c e
 | some y, x :: r, h, c, hc => by
  rw [cellsL] at h
  split at h
  ·rename_i h1; exact absurd h h1
  ·rename_i h1
   split at h
   ·cases h
   ·split at h
    ·cases h
    ·rcases List.mem_cons.1 hc with e | e
     ·subst e; exact Classical.not_not.1 h1
     ·exact cellsL_mem _ r h c e
theorem check_parts {x : ArrT} (h : checkE x = 0) : schemaE x.dims x.attrs = 0 ∧ x.cells.length ≤ 4096 ∧ cellsL x.dims x.attrs none x.cells = 0 := by
 unfold checkE at h
 split at h
 ·rename_i h1; exact absurd h h1
 ·rename_i h1
  split at h
  ·cases h
  ·rename_i h2; exact ⟨Classical.not_not.1 h1, by omega, h⟩
theorem schema_dims {d : List DimT} {a : List AttrT} (h : schemaE d a = 0) : dimsE d = 0 := by
 unfold schemaE at h
 split at h
 ·rename_i h1; exact absurd h h1
 ·rename_i h1; exact Classical.not_not.1 h1
theorem check_len {x : ArrT} (h : checkE x = 0) : ∀ c ∈ x.cells, c.co.length = x.dims.length := fun c hc => by
 have h1 := cellsL_mem _ _ (check_parts h).2.2 c hc
 unfold cellE at h1
 split at h1
 ·cases h1
 ·rename_i h2; exact Classical.byContradiction fun h3 => h2 (.inl h3)
theorem check_dims {x : ArrT} (h : checkE x = 0) : 1 ≤ x.dims.length ∧ x.dims.length ≤ 4 := by
 have h1 := dims_good (schema_dims (check_parts h).1)
 have := h1.2.1
 refine ⟨?_, this⟩
 have h2 := schema_dims (check_parts h).1
 unfold dimsE at h2
 split at h2
 ·cases h2
 ·omega
theorem hullL_len {m : List Int × List Int} {l : List CellT} {n : Nat} (h1 : m.1.length = n) (h2 : m.2.length = n) (h : ∀ c ∈ l, c.co.length = n) : (hullL m l).1.length = n ∧ (hullL m l).2.length = n := by
 induction l generalizing m with
 | nil => exact ⟨h1, h2⟩
 | cons c l ih =>
  have hc := h c (by simp)
  exact ih (m := hullF m c) (by simp [hullF, h1, hc]) (by simp [hullF, h2, hc]) (fun c hc => h c (by simp [hc]))
theorem hullL_snoc {m : List Int × List Int} {l : List CellT} {i : Nat} {c : CellT} (h : l[i]? = some c) : hullL m (l.take (i + 1)) = hullF (hullL m (l.take i)) c := by
 rw [take_snoc' h]; unfold hullL; rw [List.foldl_append]; rfl
theorem zip_get {f : Int → Int → Int} {a b : List Int} {i : Nat} {x y : Int} (h1 : a[i]? = some x) (h2 : b[i]? = some y) : (List.zipWith f a b)[i]? = some (f x y) := by
 rw [List.getElem?_zipWith, h1, h2]

/-- what is known in a region of reads with two stores -/
structure St2J (VL : List (Option Value)) (j1 j2 : Nat) (W0 W1 W2 : World) (dn : Nat → Bool) (vals : Nat → Value) (w : World) : Prop where
 s0 : dn j1 = false → dn j2 = false → w = W0
 s1 : dn j1 = true → dn j2 = false → w = W1
 s2 : dn j1 = true → dn j2 = true → w = W2
 fv : Told VL dn vals
section
variable {VL : List (Option Value)} {j1 j2 : Nat} {W0 W1 W2 : World} {dn : Nat → Bool} {vals : Nat → Value} {w : World}
theorem St2J.start (h : w = W0) : St2J VL j1 j2 W0 W1 W2 (fun _ => false) (fun _ => undef) w := ⟨fun _ _ => h, fun h => Bool.noConfusion h, fun h => Bool.noConfusion h, fun _ _ _ h => Bool.noConfusion h⟩
theorem St2J.early (h : St2J VL j1 j2 W0 W1 W2 dn vals w) (hd : dn j2 = false) : w = W0 ∨ w = W1 := by
 cases e : dn j1 with
 | false => exact .inl (h.s0 e hd)
 | true => exact .inr (h.s1 e hd)
theorem St2J.read {i : Nat} {v : Value} (h : St2J VL j1 j2 W0 W1 W2 dn vals w) (h1 : j1 ≠ i) (h2 : j2 ≠ i) (hv : VL[i]? = some (some v)) : St2J VL j1 j2 W0 W1 W2 (upd dn i) (updV vals i v) w := by
 refine ⟨?_, ?_, ?_, h.fv.step (.inl hv)⟩ <;> rw [upd_ne h1, upd_ne h2]
 ·exact h.s0
 ·exact h.s1
 ·exact h.s2
theorem St2J.store1 {v : Value} {w' : World} (h : St2J VL j1 j2 W0 W1 W2 dn vals w) (hj : j2 ≠ j1) (hv : VL[j1]? = some none) (hd : dn j2 = false) (hw : w' = W1) : St2J VL j1 j2 W0 W1 W2 (upd dn j1) (updV vals j1 v) w' := by
 refine ⟨?_, ?_, ?_, h.fv.step (.inr hv)⟩ <;> rw [upd_at, upd_ne hj]
 ·exact fun h => Bool.noConfusion h
 ·exact fun _ _ => hw
 ·rw [hd]; exact fun _ h => Bool.noConfusion h
theorem St2J.store2 {v : Value} {w' : World} (h : St2J VL j1 j2 W0 W1 W2 dn vals w) (hj : j1 ≠ j2) (hv : VL[j2]? = some none) (hd : dn j1 = true) (hw : w' = W2) : St2J VL j1 j2 W0 W1 W2 (upd dn j2) (updV vals j2 v) w' := by
 refine ⟨?_, ?_, ?_, h.fv.step (.inr hv)⟩ <;> rw [upd_at, upd_ne hj]
 ·rw [hd]; exact fun h => Bool.noConfusion h
 ·exact fun _ h => Bool.noConfusion h
 ·exact fun _ _ => hw
end

theorem set2_blockB (z : World) (g b : Nat) (x y : Value) (h : b ≠ g) : ((z.setCell ⟨g, 0, none⟩ x).setCell ⟨g, 1, none⟩ y).heap[b]? = z.heap[b]? :=
 (Below.heap_setCell _ ⟨g, 1, none⟩ y b h).trans (Below.heap_setCell z ⟨g, 0, none⟩ x b h)
/-- a slice of numbers that was made here -/
structure NewR (n₀ : Nat) (w : World) (v : Value) (l : List Int) (g : Nat) : Prop where
 ex : ∃ cap, v = .slice (some ⟨g, 0, none⟩) l.length cap ∧ l.length ≤ cap ∧ cap ≤ 9223372036854775807
 row : RowZ w g l
 ge : n₀ ≤ g
theorem NewR.later {n₀ g : Nat} {w w' : World} {v : Value} {l : List Int} (h : NewR n₀ w v l g) (hb : Below w.heap.size w w') : NewR n₀ w' v l g := ⟨h.ex, h.row.later hb h.row.tag.lt, h.ge⟩
/-- the box and its two lists -/
structure HuB (n₀ b g1 g2 : Nat) (w : World) (v1 v2 : Value) (lo hi : List Int) : Prop where
 res : ResB w b v1 v2
 a1 : NewR n₀ w v1 lo g1
 a2 : NewR n₀ w v2 hi g2
 ne : g1 ≠ g2
 tag : TagB w b 26
 ge : n₀ ≤ b
/-- what is known in the region that makes the two lists -/
structure TwJ (VL : List (Option Value)) (jA jB jC jD jS : Nat) (W0 : World) (l : List Int) (dn : Nat → Bool) (vals : Nat → Value) (w : World) : Prop where
 below : Below W0.heap.size W0 w
 fA : dn jA = true → ∃ g, NewR W0.heap.size w (vals jA) l g
 fB : dn jB = true → ∃ g1 g2, NewR W0.heap.size w (vals jA) l g1 ∧ NewR W0.heap.size w (vals jB) l g2 ∧ g1 ≠ g2
 fC : dn jC = true → vals jC = .agg #[vals jA, vals jB]
 fD : dn jD = true → dn jS = false → ∃ b, vals jD = .pointer (some ⟨b, 0, none⟩) ∧ ResB w b (.slice none 0 0) (.slice none 0 0) ∧ TagB w b 26 ∧ W0.heap.size ≤ b
 fS : dn jS = true → ∃ b g1 g2, vals jD = .pointer (some ⟨b, 0, none⟩) ∧ HuB W0.heap.size b g1 g2 w (vals jA) (vals jB) l l
 fv : Told VL dn vals
section
variable {VL : List (Option Value)} {jA jB jC jD jS : Nat} {W0 : World} {l : List Int} {dn : Nat → Bool} {vals : Nat → Value} {w : World}
theorem TwJ.start {W : World} (h : Below W0.heap.size W0 W) : TwJ VL jA jB jC jD jS W0 l (fun _ => false) (fun _ => undef) W :=
 ⟨h, fun h => Bool.noConfusion h, fun h => Bool.noConfusion h, fun h => Bool.noConfusion h, fun h => Bool.noConfusion h, fun h => Bool.noConfusion h, fun _ _ _ h => Bool.noConfusion h⟩
theorem TwJ.step {i : Nat} {v : Value} {w' : World} (h : TwJ VL jA jB jC jD jS W0 l dn vals w) (hA : jA ≠ i) (hB : jB ≠ i) (hC : jC ≠ i) (hD : jD ≠ i) (hS : jS ≠ i) (ns : dn jS = false) (hv : VL[i]? = some (some v) ∨ VL[i]? = some none) (hb : Below w.heap.size w w') : TwJ VL jA jB jC jD jS W0 l (upd dn i) (updV vals i v) w' := by
 refine ⟨below_keep h.below hb, ?_, ?_, ?_, ?_, ?_, h.fv.step hv⟩
 ·rw [upd_ne hA, updV_ne hA]; intro hd; obtain ⟨g, hg⟩ := h.fA hd; exact ⟨g, hg.later hb⟩
 ·rw [upd_ne hB, updV_ne hA, updV_ne hB]; intro hd; obtain ⟨g1, g2, k1, k2, k3⟩ := h.fB hd; exact ⟨g1, g2, k1.later hb, k2.later hb, k3⟩
 ·rw [upd_ne hC, updV_ne hA, updV_ne hB, updV_ne hC]; exact h.fC
 ·rw [upd_ne hD, upd_ne hS, updV_ne hD]; intro h1 h2; obtain ⟨b, e, k1, k2, k3⟩ := h.fD h1 h2; exact ⟨b, e, k1.later hb k2.lt, k2.kept (hb.block _ k2.lt), k3⟩
 ·rw [upd_ne hS, ns]; exact fun h => Bool.noConfusion h
theorem TwJ.callA {v : Value} {w' : World} {g : Nat} (h : TwJ VL jA jB jC jD jS W0 l dn vals w) (hB : jB ≠ jA) (hC : jC ≠ jA) (hD : jD ≠ jA) (hS : jS ≠ jA) (nB : dn jB = false) (nC : dn jC = false) (ns : dn jS = false) (hv : VL[jA]? = some none) (hb : Below w.heap.size w w') (hg : NewR W0.heap.size w' v l g) : TwJ VL jA jB jC jD jS W0 l (upd dn jA) (updV vals jA v) w' := by
 refine ⟨below_keep h.below hb, ?_, ?_, ?_, ?_, ?_, h.fv.step (.inr hv)⟩
 ·rw [updV_at]; exact fun _ => ⟨g, hg⟩
 ·rw [upd_ne hB, nB]; exact fun h => Bool.noConfusion h
 ·rw [upd_ne hC, nC]; exact fun h => Bool.noConfusion h
 ·rw [upd_ne hD, upd_ne hS, updV_ne hD]; intro h1 h2; obtain ⟨b, e, k1, k2, k3⟩ := h.fD h1 h2; exact ⟨b, e, k1.later hb k2.lt, k2.kept (hb.block _ k2.lt), k3⟩
 ·rw [upd_ne hS, ns]; exact fun h => Bool.noConfusion h
theorem TwJ.callB {v : Value} {w' : World} {g : Nat} (h : TwJ VL jA jB jC jD jS W0 l dn vals w) (hA : jA ≠ jB) (hC : jC ≠ jB) (hD : jD ≠ jB) (hS : jS ≠ jB) (dA : dn jA = true) (nC : dn jC = false) (ns : dn jS = false) (hv : VL[jB]? = some none) (hb : Below w.heap.size w w') (hg : NewR W0.heap.size w' v l g) (hge : w.heap.size ≤ g) : TwJ VL jA jB jC jD jS W0 l (upd dn jB) (updV vals jB v) w' := by
 refine ⟨below_keep h.below hb, ?_, ?_, ?_, ?_, ?_, h.fv.step (.inr hv)⟩
 ·rw [upd_ne hA, updV_ne hA]; intro hd; obtain ⟨g, hg⟩ := h.fA hd; exact ⟨g, hg.later hb⟩
 ·rw [updV_ne hA, updV_at]
  intro _
  obtain ⟨g1, k1⟩ := h.fA dA
  exact ⟨g1, g, k1.later hb, hg, by have := k1.row.tag.lt; omega⟩
 ·rw [upd_ne hC, nC]; exact fun h => Bool.noConfusion h
 ·rw [upd_ne hD, upd_ne hS, updV_ne hD]; intro h1 h2; obtain ⟨b, e, k1, k2, k3⟩ := h.fD h1 h2; exact ⟨b, e, k1.later hb k2.lt, k2.kept (hb.block _ k2.lt), k3⟩
 ·rw [upd_ne hS, ns]; exact fun h => Bool.noConfusion h
theorem TwJ.build (h : TwJ VL jA jB jC jD jS W0 l dn vals w) (hA : jA ≠ jC) (hB : jB ≠ jC) (hD : jD ≠ jC) (hS : jS ≠ jC) (ns : dn jS = false) (hv : VL[jC]? = some none) {v : Value} (he : v = .agg #[vals jA, vals jB]) : TwJ VL jA jB jC jD jS W0 l (upd dn jC) (updV vals jC v) w := by
 subst he
 refine ⟨h.below, ?_, ?_, ?_, ?_, ?_, h.fv.step (.inr hv)⟩
 ·rw [upd_ne hA, updV_ne hA]; exact h.fA
 ·rw [upd_ne hB, updV_ne hA, updV_ne hB]; exact h.fB
 ·rw [updV_at, updV_ne hA, updV_ne hB]; exact fun _ => rfl
 ·rw [upd_ne hD, upd_ne hS, updV_ne hD]; exact h.fD
 ·rw [upd_ne hS, ns]; exact fun h => Bool.noConfusion h
theorem TwJ.alloc (h : TwJ VL jA jB jC jD jS W0 l dn vals w) (hA : jA ≠ jD) (hB : jB ≠ jD) (hC : jC ≠ jD) (hS : jS ≠ jD) (ns : dn jS = false) (hv : VL[jD]? = some none) : TwJ VL jA jB jC jD jS W0 l (upd dn jD) (updV vals jD (.pointer (some ⟨w.heap.size, 0, none⟩))) (w.alloc (.cells #[.slice none 0 0, .slice none 0 0] 26)) := by
 have hb : Below w.heap.size w (w.alloc (.cells #[.slice none 0 0, .slice none 0 0] 26)) := below_alloc _ _
 refine ⟨below_keep h.below hb, ?_, ?_, ?_, ?_, ?_, h.fv.step (.inr hv)⟩
 ·rw [upd_ne hA, updV_ne hA]; intro hd; obtain ⟨g, hg⟩ := h.fA hd; exact ⟨g, hg.later hb⟩
 ·rw [upd_ne hB, updV_ne hA, updV_ne hB]; intro hd; obtain ⟨g1, g2, k1, k2, k3⟩ := h.fB hd; exact ⟨g1, g2, k1.later hb, k2.later hb, k3⟩
 ·rw [upd_ne hC, updV_ne hA, updV_ne hB, updV_ne hC]; exact h.fC
 ·rw [updV_at]; exact fun _ _ => ⟨_, rfl, ResB.made w _, ⟨_, _, World.alloc_heap_new w _⟩, h.below.size⟩
 ·rw [upd_ne hS, ns]; exact fun h => Bool.noConfusion h
theorem TwJ.store (h : TwJ VL jA jB jC jD jS W0 l dn vals w) (hA : jA ≠ jS) (hB : jB ≠ jS) (hC : jC ≠ jS) (hD : jD ≠ jS) (hv : VL[jS]? = some none) (dB : dn jB = true) {b : Nat} (he : vals jD = .pointer (some ⟨b, 0, none⟩)) (h1 : ResB w b (.slice none 0 0) (.slice none 0 0)) (h2 : TagB w b 26) (h3 : W0.heap.size ≤ b) {v u1 u2 : Value} (e1 : u1 = vals jA) (e2 : u2 = vals jB) :
  TwJ VL jA jB jC jD jS W0 l (upd dn jS) (updV vals jS v) ((w.setCell ⟨b, 0, none⟩ u1).setCell ⟨b, 1, none⟩ u2) := by
 subst e1 e2
 obtain ⟨g1, g2, k1, k2, k3⟩ := h.fB dB
 have hn : ∀ x, x ≠ b → ((w.setCell ⟨b, 0, none⟩ (vals jA)).setCell ⟨b, 1, none⟩ (vals jB)).heap[x]? = w.heap[x]? := fun x hx => set2_blockB w b x _ _ hx
 have n1 : g1 ≠ b := k1.row.tag.ne h2 (by decide)
 have n2 : g2 ≠ b := k2.row.tag.ne h2 (by decide)
 have m1 : NewR W0.heap.size ((w.setCell ⟨b, 0, none⟩ (vals jA)).setCell ⟨b, 1, none⟩ (vals jB)) (vals jA) l g1 := ⟨k1.ex, k1.row.kept (hn _ n1), k1.ge⟩
 have m2 : NewR W0.heap.size ((w.setCell ⟨b, 0, none⟩ (vals jA)).setCell ⟨b, 1, none⟩ (vals jB)) (vals jB) l g2 := ⟨k2.ex, k2.row.kept (hn _ n2), k2.ge⟩
 refine ⟨(h.below.setCell (p := ⟨b, 0, none⟩) h3 _).setCell (p := ⟨b, 1, none⟩) h3 _, ?_, ?_, ?_, ?_, ?_, h.fv.step (.inr hv)⟩
 ·rw [updV_ne hA]; exact fun _ => ⟨g1, m1⟩
 ·rw [updV_ne hA, updV_ne hB]; exact fun _ => ⟨g1, g2, m1, m2, k3⟩
 ·rw [upd_ne hC, updV_ne hA, updV_ne hB, updV_ne hC]; exact h.fC
 ·rw [upd_at]; exact fun _ h => Bool.noConfusion h
 ·rw [updV_ne hA, updV_ne hB, updV_ne hD]
  refine fun _ => ⟨b, g1, g2, he, ⟨?_, ?_, ?_, ?_⟩, m1, m2, k3, (h2.setCell _ _).setCell _ _, h3⟩
  ·rw [World.cell?_setCell_other _ _ _ _ (fun e => by injection e with _ e; cases e)]; exact World.cell?_setCell_same _ _ _ h1.c0
  ·exact World.cell?_setCell_same _ _ _ (by rw [World.cell?_setCell_other _ _ _ _ (fun e => by injection e with _ e; cases e)]; exact h1.c1)
  ·rw [World.frozen?_setCell, World.frozen?_setCell]; exact h1.f0
  ·rw [World.frozen?_setCell, World.frozen?_setCell]; exact h1.f1
end
end Go.Proofs.YtkliekoheeeamaaGreatDoor
/- space.Hull: the contract. (printed by hull.py) -/
namespace Go.Proofs.YtkliekoheeeamaaGreatDoor
open Go.RowKit Go.Shelf
attribute [local go_sem] Oper.semAt_some

theorem hul_at (w : World) (v1 v2 v3 : Value) : ∃ W1, W1 = (w.alloc (.cells #[v1, v2, v3] 52)).alloc (.cells #[.slice none 0 0, .slice none 0 0] 26) ∧ Below w.heap.size w W1 ∧ W1.heap.size = w.heap.size + 2 ∧ ∀ w', Below W1.heap.size W1 w' → (w'.cell? ⟨w.heap.size, 0, none⟩ = some v1 ∧ w'.cell? ⟨w.heap.size, 1, none⟩ = some v2 ∧ w'.cell? ⟨w.heap.size, 2, none⟩ = some v3) ∧ ResB w' (w.heap.size + 1) (.slice none 0 0) (.slice none 0 0) := by
 have hb1 : Below w.heap.size w (w.alloc (.cells #[v1, v2, v3] 52)) := below_alloc _ _
 have hb2 : Below (w.alloc (.cells #[v1, v2, v3] 52)).heap.size (w.alloc (.cells #[v1, v2, v3] 52)) ((w.alloc (.cells #[v1, v2, v3] 52)).alloc (.cells #[.slice none 0 0, .slice none 0 0] 26)) := below_alloc _ _
 refine ⟨_, rfl, below_keep hb1 hb2, by simp, fun w' hb => ?_⟩
 have h1 : ∀ j, w'.cell? ⟨w.heap.size, j, none⟩ = (w.alloc (.cells #[v1, v2, v3] 52)).cell? ⟨w.heap.size, j, none⟩ := fun j => (below_keep hb2 hb).cell (p := ⟨w.heap.size, j, none⟩) (by simp)
 have hr := (ResB.made (w.alloc (.cells #[v1, v2, v3] 52)) 26).later hb (by simp)
 simp only [World.size_alloc] at hr
 refine ⟨⟨?_, ?_, ?_⟩, hr⟩ <;> (rw [h1, World.cell?_alloc_at _ _ _ _ rfl]; rfl)
theorem belowP_to {c : Nat → Prop} {w wx w' : World} (h1 : Below w.heap.size w wx) (h2 : BelowP c wx.heap.size wx w') (hc : ∀ k, k < w.heap.size → ¬ c k) : Below w.heap.size w w' :=
 ⟨h2.os.trans h1.os, h2.tape.trans h1.tape, h2.output.trans h1.output, Nat.le_trans h1.size h2.size, fun k hk => (h2.block k (Nat.lt_of_lt_of_le hk h1.size) (hc k hk)).trans (h1.block k hk)⟩
theorem hull_bad (x : ArrT) (vd va vc : Value) (w : World) (hx : ArrR w vd va vc x) (hs : StrD x.dims) (hsa : StrA x.attrs) (h : checkE x ≠ 0) :
  Calls Tryz.prog 21 #[.agg #[vd, va, vc]] w (RetBxB none w) := by
 have C := Lib.hid (fun w1 (hb : Below w.heap.size w w1) => checkA_any x vd va vc w1 (hx.later hb) hs hsa)
 obtain ⟨p1, k1, rfl, -⟩ := hx.dims.shape
 obtain ⟨p2, k2, rfl, -⟩ := hx.attrs.shape
 obtain ⟨p3, k3, rfl, -⟩ := hx.cells.shape
 have hne : (checkE x != 0) = true := by rw [bne_iff_ne]; exact h
 generalize checkE x = r at *
 obtain ⟨W1, hW1, hb1, -, hbx⟩ := hul_at w (.slice p1 x.dims.length k1) (.slice p2 x.attrs.length k2) (.slice p3 x.cells.length k3)
 have HB1 := Lib.hid hb1
 have HBX := Lib.hid hbx
 obtain ⟨⟨z0, z1, z2⟩, -⟩ := hbx W1 (Below.refl _ _)
 clear hx hs hsa h hb1 hbx
 go_enter Tryz.func21, Tryz.ntmps21
 go_upto_region 1 with (fail)
 rw [← hW1]
 clear hW1
 go_wp2_with fail
 refine (C.out _ HB1.out).mono ?_
 rintro e w2 ⟨rfl, hb⟩
 have HB2 := Lib.hid (below_keep HB1.out hb)
 obtain ⟨d0, r0, r1, r2, r3⟩ := HBX.out w2 hb
 clear hb C d0 z0 z1 z2
 go_wp2
 refine bodyPost_ret (by simp [results, Tryz.results21, go_sem, r0, r1]; try rfl) rfl ?_
 exact ⟨_, _, rfl, IntsO.nil _, IntsO.nil _, (HB2.out.setCell (by simp) _).setCell (by simp) _⟩
theorem hull_none (x : ArrT) (vd va vc : Value) (w : World) (hx : ArrR w vd va vc x) (hs : StrD x.dims) (hsa : StrA x.attrs) (h : checkE x = 0) (h0 : x.cells.length = 0) :
  Calls Tryz.prog 21 #[.agg #[vd, va, vc]] w (RetBxB none w) := by
 have C := Lib.hid (fun w1 (hb : Below w.heap.size w w1) => checkA_any x vd va vc w1 (hx.later hb) hs hsa)
 rw [h] at C
 obtain ⟨p1, k1, rfl, -⟩ := hx.dims.shape
 obtain ⟨p2, k2, rfl, -⟩ := hx.attrs.shape
 obtain ⟨p3, k3, rfl, -⟩ := hx.cells.shape
 rw [h0] at C ⊢
 obtain ⟨W1, hW1, hb1, -, hbx⟩ := hul_at w (.slice p1 x.dims.length k1) (.slice p2 x.attrs.length k2) (.slice p3 0 k3)
 have HB1 := Lib.hid hb1
 have HBX := Lib.hid hbx
 obtain ⟨⟨z0, z1, z2⟩, -⟩ := hbx W1 (Below.refl _ _)
 clear hx hs hsa h hb1 hbx h0
 go_enter Tryz.func21, Tryz.ntmps21
 go_upto_region 1 with (fail)
 rw [← hW1]
 clear hW1
 go_wp2_with fail
 refine (C.out _ HB1.out).mono ?_
 rintro e w2 ⟨rfl, hb⟩
 have HB2 := Lib.hid (below_keep HB1.out hb)
 obtain ⟨⟨d0, d1, d2⟩, r0, r1, r2, r3⟩ := HBX.out w2 hb
 clear hb C z0 z1 z2
 go_wp2
 refine bodyPost_ret (by simp [results, Tryz.results21, go_sem, r0, r1]; try rfl) rfl ?_
 exact ⟨_, _, rfl, IntsO.nil _, IntsO.nil _, (HB2.out.setCell (by simp) _).setCell (by simp) _⟩
set_option maxHeartbeats 32000000 in
set_option maxRecDepth 100000 in
theorem hull_core (x : ArrT) (c0 : CellT) (vd va vc : Value) (w : World) (hx : ArrR w vd va vc x) (hs : StrD x.dims) (hsa : StrA x.attrs) (h : checkE x = 0) (hc0 : x.cells[0]? = some c0) :
  Calls Tryz.prog 21 #[.agg #[vd, va, vc]] w (RetBxB (some (hullL (c0.co, c0.co) x.cells)) w) := by
 have C := Lib.hid (fun w1 (hb : Below w.heap.size w w1) => checkA_any x vd va vc w1 (hx.later hb) hs hsa)
 rw [h] at C
 have HCL := Lib.hid (check_len h)
 have HD4 := Lib.hid (check_dims h)
 have HN4 := Lib.hid (check_parts h).2.1
 have HLS := Lib.hid hx.cells
 obtain ⟨p1, k1, rfl, -⟩ := hx.dims.shape
 obtain ⟨p2, k2, rfl, -⟩ := hx.attrs.shape
 obtain ⟨p3, k3, rfl, -⟩ := hx.cells.shape
 obtain ⟨gc, oc, c9, ec, hc9, hr⟩ := hx.cells.at 0 (lt_at hc0)
 obtain rfl : c9 = c0 := Option.some.inj (hc9.symm.trans hc0)
 subst ec
 obtain ⟨u1, u2, e1, e2, hi1, -⟩ := hr
 have h01 : 0 < c9.co.length := by rw [HCL.out c9 (List.mem_of_getElem? hc0)]; exact HD4.out.1
 have CC0 := Lib.hid (fun w1 (hb : Below w.heap.size w w1) => clone_any c9.co u1 w1 (hi1.later IntR.lasts hb) h01 (by rw [HCL.out c9 (List.mem_of_getElem? hc0)]; have := HD4.out.2; omega))
 obtain ⟨pz, kz, rfl, -⟩ := hi1.shape
 obtain ⟨gz, oz, yz, ez, -, -⟩ := hi1.at 0 h01
 subst ez
 rw [Nat.zero_mul, Nat.add_zero] at e1
 have HE1 := Lib.hid e1
 obtain ⟨L, hL⟩ : ∃ L, L = x.cells := ⟨_, rfl⟩
 rw [← hL] at HCL HN4 HLS hc0 C ⊢
 obtain ⟨c0, hcc⟩ : ∃ c0, c0 = c9 := ⟨_, rfl⟩
 rw [← hcc] at hc0 HE1 CC0 h01 ⊢
 have hn0 : ((L.length : Int) == 0) = false := by rw [beq_eq_false_iff_ne]; have := lt_at hc0; omega
 have HL0 : Hid (0 < L.length ∧ c0.co.length = x.dims.length ∧ 0 < c0.co.length) := ⟨lt_at hc0, HCL.out c0 (List.mem_of_getElem? hc0), h01⟩
 obtain ⟨W1, hW1, hb1, hs1, hbx⟩ := hul_at w (.slice p1 x.dims.length k1) (.slice p2 x.attrs.length k2) (.slice (some ⟨gc, oc, none⟩) L.length k3)
 have HB1 := Lib.hid hb1
 have HBX := Lib.hid hbx
 obtain ⟨⟨z0, z1, z2⟩, -⟩ := hbx W1 (Below.refl _ _)
 have HS1 := Lib.hid hs1
 clear hx hs hsa h hb1 hbx hs1 hL hcc hc9 hc0 e1 e2 hi1 h01
 go_enter Tryz.func21, Tryz.ntmps21
 go_upto_region 1 with (fail)
 rw [← hW1]
 clear hW1
 go_wp2_with fail
 refine (C.out _ HB1.out).mono ?_
 rintro e w3 ⟨rfl, hb⟩
 have HB3 := Lib.hid hb
 have HW3 := Lib.hid (below_keep HB1.out hb)
 obtain ⟨⟨d0, d1, d2⟩, -⟩ := HBX.out w3 hb
 have KY : Hid (∀ w', Below w3.heap.size w3 w' → w'.cell? ⟨w.heap.size, 2, none⟩ = some (.slice (some ⟨gc, oc, none⟩) L.length k3) ∧ w'.cell? ⟨gc, oc, none⟩ = some (.slice (some ⟨gz, oz, none⟩) c0.co.length kz)) := fun w' h' =>
  ⟨cell_later d2 h', cell_later HE1.out (below_keep HW3.out h')⟩
 have CC : Hid (∀ w', Below w3.heap.size w3 w' → Calls Tryz.prog 54 #[.slice (some ⟨gz, oz, none⟩) c0.co.length kz] w' (RetCl c0.co w')) := fun w' h' => CC0.out w' (below_keep HW3.out h')
 have ib0 : 0 < L.length := HL0.out.1
 clear hb C d0 d1 z0 z1 z2 HE1
 go_upto_region 3 with (fail)
 clear d2
 refine wp_region_inv [some 19, some 20, some 21, some 22, some 23, some 24, some 25, some 26, some 27, some 28, some 29, some 30, some 31, some 4, none] (TwJ [some (.pointer (some ⟨w.heap.size, 2, none⟩)), some (.slice (some ⟨gc, oc, none⟩) L.length k3), some (.pointer (some ⟨gc, oc, none⟩)), some (.pointer (some ⟨gc, oc, none⟩)), some (.slice (some ⟨gz, oz, none⟩) c0.co.length kz), none, some (.pointer (some ⟨w.heap.size, 2, none⟩)), some (.slice (some ⟨gc, oc, none⟩) L.length k3), some (.pointer (some ⟨gc, oc, none⟩)), some (.pointer (some ⟨gc, oc, none⟩)), some (.slice (some ⟨gz, oz, none⟩) c0.co.length kz), none, none, none, none] 5 11 12 13 14 w3 c0.co) rfl (by kernel_rfl) (by kernel_rfl) (by kernel_rfl) (by kernel_rfl) ?_ ?_ ?_
 ·exact TwJ.start (Below.refl _ _).drew
 ·intro i9 op9 ho
  have hi9 : i9 < 15 := (Array.getElem?_eq_some_iff.1 ho).1
  match i9, hi9 with
  | 0, _ =>
   obtain rfl := Option.some.inj ho
   intro a9 dn vals wx hJ0 hdi hde hdj hev hsl hun
   have hJ := Lib.hid hJ0
   rw [if_pos (wanted_none rfl)]
   have f1 : (a9.tmps[1]?).getD undef = .pointer (some ⟨w.heap.size, 0, none⟩) := hev 1 (by kernel_rfl)
   have n14 : Hid (dn 14 = false) := hdj 14 3 _ _ rfl rfl rfl rfl
   clear hde hdj hev hsl hun hJ0 hdi
   go_simp
   exact hJ.out.step (i := 0) (by decide) (by decide) (by decide) (by decide) (by decide) n14.out (.inl rfl) (Below.refl _ _)
  | 1, _ =>
   obtain rfl := Option.some.inj ho
   intro a9 dn vals wx hJ0 hdi hde hdj hev hsl hun
   have hJ := Lib.hid hJ0
   rw [if_pos (wanted_none rfl)]
   have f19 : (a9.tmps[19]?).getD undef = .pointer (some ⟨w.heap.size, 2, none⟩) := (hsl 0 19 (hde 0 _ rfl rfl) rfl).trans (hJ.out.fv 0 _ rfl (hde 0 _ rfl rfl))
   have n14 : Hid (dn 14 = false) := hdj 14 4 _ _ rfl rfl rfl rfl
   clear hde hdj hev hsl hun hJ0 hdi
   obtain ⟨z0, z1⟩ := KY.out _ hJ.out.below
   go_simp
   exact hJ.out.step (i := 1) (by decide) (by decide) (by decide) (by decide) (by decide) n14.out (.inl rfl) (Below.refl _ _)
  | 2, _ =>
   obtain rfl := Option.some.inj ho
   intro a9 dn vals wx hJ0 hdi hde hdj hev hsl hun
   have hJ := Lib.hid hJ0
   rw [if_pos (wanted_none rfl)]
   have f20 : (a9.tmps[20]?).getD undef = .slice (some ⟨gc, oc, none⟩) L.length k3 := (hsl 1 20 (hde 0 _ rfl rfl) rfl).trans (hJ.out.fv 1 _ rfl (hde 0 _ rfl rfl))
   have n14 : Hid (dn 14 = false) := hdj 14 5 _ _ rfl rfl rfl rfl
   clear hde hdj hev hsl hun hJ0 hdi
   go_simp
   exact hJ.out.step (i := 2) (by decide) (by decide) (by decide) (by decide) (by decide) n14.out (.inl rfl) (Below.refl _ _)
  | 3, _ =>
   obtain rfl := Option.some.inj ho
   intro a9 dn vals wx hJ0 hdi hde hdj hev hsl hun
   have hJ := Lib.hid hJ0
   rw [if_pos (wanted_none rfl)]
   have f21 : (a9.tmps[21]?).getD undef = .pointer (some ⟨gc, oc, none⟩) := (hsl 2 21 (hde 0 _ rfl rfl) rfl).trans (hJ.out.fv 2 _ rfl (hde 0 _ rfl rfl))
   have n14 : Hid (dn 14 = false) := hdj 14 6 _ _ rfl rfl rfl rfl
   clear hde hdj hev hsl hun hJ0 hdi
   go_simp
   exact hJ.out.step (i := 3) (by decide) (by decide) (by decide) (by decide) (by decide) n14.out (.inl rfl) (Below.refl _ _)
  | 4, _ =>
   obtain rfl := Option.some.inj ho
   intro a9 dn vals wx hJ0 hdi hde hdj hev hsl hun
   have hJ := Lib.hid hJ0
   rw [if_pos (wanted_none rfl)]
   have f22 : (a9.tmps[22]?).getD undef = .pointer (some ⟨gc, oc, none⟩) := (hsl 3 22 (hde 0 _ rfl rfl) rfl).trans (hJ.out.fv 3 _ rfl (hde 0 _ rfl rfl))
   have n14 : Hid (dn 14 = false) := hdj 14 7 _ _ rfl rfl rfl rfl
   clear hde hdj hev hsl hun hJ0 hdi
   obtain ⟨z0, z1⟩ := KY.out _ hJ.out.below
   go_simp
   exact hJ.out.step (i := 4) (by decide) (by decide) (by decide) (by decide) (by decide) n14.out (.inl rfl) (Below.refl _ _)
  | 5, _ =>
   obtain rfl := Option.some.inj ho
   intro a9 dn vals wx hJ0 hdi hde hdj hev hsl hun
   have hJ := Lib.hid hJ0
   rw [if_pos (wanted_none rfl)]
   have f23 : (a9.tmps[23]?).getD undef = .slice (some ⟨gz, oz, none⟩) c0.co.length kz := (hsl 4 23 (hde 0 _ rfl rfl) rfl).trans (hJ.out.fv 4 _ rfl (hde 0 _ rfl rfl))
   have n12 : Hid (dn 12 = false) := hdj 12 0 _ _ rfl rfl rfl rfl
   have n14 : Hid (dn 14 = false) := hdj 14 8 _ _ rfl rfl rfl rfl
   have n11 : Hid (dn 11 = false) := hdj 11 1 _ _ rfl rfl rfl rfl
   clear hde hdj hev hsl hun hJ0 hdi
   go_simp
   exact (CC.out wx hJ.out.below).mono fun e w9 ⟨g, cap, he, k1, k2, k3, k4, k5⟩ => ⟨_, he, hJ.out.callA (by decide) (by decide) (by decide) (by decide) n11.out n12.out n14.out rfl k5 ⟨⟨cap, rfl, k2, k3⟩, k4, Nat.le_trans hJ.out.below.size k1⟩⟩
  | 6, _ =>
   obtain rfl := Option.some.inj ho
   intro a9 dn vals wx hJ0 hdi hde hdj hev hsl hun
   have hJ := Lib.hid hJ0
   rw [if_pos (wanted_none rfl)]
   have f1 : (a9.tmps[1]?).getD undef = .pointer (some ⟨w.heap.size, 0, none⟩) := hev 1 (by kernel_rfl)
   have n14 : Hid (dn 14 = false) := hdj 14 9 _ _ rfl rfl rfl rfl
   clear hde hdj hev hsl hun hJ0 hdi
   go_simp
   exact hJ.out.step (i := 6) (by decide) (by decide) (by decide) (by decide) (by decide) n14.out (.inl rfl) (Below.refl _ _)
  | 7, _ =>
   obtain rfl := Option.some.inj ho
   intro a9 dn vals wx hJ0 hdi hde hdj hev hsl hun
   have hJ := Lib.hid hJ0
   rw [if_pos (wanted_none rfl)]
   have f25 : (a9.tmps[25]?).getD undef = .pointer (some ⟨w.heap.size, 2, none⟩) := (hsl 6 25 (hde 0 _ rfl rfl) rfl).trans (hJ.out.fv 6 _ rfl (hde 0 _ rfl rfl))
   have n14 : Hid (dn 14 = false) := hdj 14 10 _ _ rfl rfl rfl rfl
   clear hde hdj hev hsl hun hJ0 hdi
   obtain ⟨z0, z1⟩ := KY.out _ hJ.out.below
   go_simp
   exact hJ.out.step (i := 7) (by decide) (by decide) (by decide) (by decide) (by decide) n14.out (.inl rfl) (Below.refl _ _)
  | 8, _ =>
   obtain rfl := Option.some.inj ho
   intro a9 dn vals wx hJ0 hdi hde hdj hev hsl hun
   have hJ := Lib.hid hJ0
   rw [if_pos (wanted_none rfl)]
   have f26 : (a9.tmps[26]?).getD undef = .slice (some ⟨gc, oc, none⟩) L.length k3 := (hsl 7 26 (hde 0 _ rfl rfl) rfl).trans (hJ.out.fv 7 _ rfl (hde 0 _ rfl rfl))
   have n14 : Hid (dn 14 = false) := hdj 14 11 _ _ rfl rfl rfl rfl
   clear hde hdj hev hsl hun hJ0 hdi
   go_simp
   exact hJ.out.step (i := 8) (by decide) (by decide) (by decide) (by decide) (by decide) n14.out (.inl rfl) (Below.refl _ _)
  | 9, _ =>
   obtain rfl := Option.some.inj ho
   intro a9 dn vals wx hJ0 hdi hde hdj hev hsl hun
   have hJ := Lib.hid hJ0
   rw [if_pos (wanted_none rfl)]
   have f27 : (a9.tmps[27]?).getD undef = .pointer (some ⟨gc, oc, none⟩) := (hsl 8 27 (hde 0 _ rfl rfl) rfl).trans (hJ.out.fv 8 _ rfl (hde 0 _ rfl rfl))
   have n14 : Hid (dn 14 = false) := hdj 14 12 _ _ rfl rfl rfl rfl
   clear hde hdj hev hsl hun hJ0 hdi
   go_simp
   exact hJ.out.step (i := 9) (by decide) (by decide) (by decide) (by decide) (by decide) n14.out (.inl rfl) (Below.refl _ _)
  | 10, _ =>
   obtain rfl := Option.some.inj ho
   intro a9 dn vals wx hJ0 hdi hde hdj hev hsl hun
   have hJ := Lib.hid hJ0
   rw [if_pos (wanted_none rfl)]
   have f28 : (a9.tmps[28]?).getD undef = .pointer (some ⟨gc, oc, none⟩) := (hsl 9 28 (hde 0 _ rfl rfl) rfl).trans (hJ.out.fv 9 _ rfl (hde 0 _ rfl rfl))
   have n14 : Hid (dn 14 = false) := hdj 14 13 _ _ rfl rfl rfl rfl
   clear hde hdj hev hsl hun hJ0 hdi
   obtain ⟨z0, z1⟩ := KY.out _ hJ.out.below
   go_simp
   exact hJ.out.step (i := 10) (by decide) (by decide) (by decide) (by decide) (by decide) n14.out (.inl rfl) (Below.refl _ _)
  | 11, _ =>
   obtain rfl := Option.some.inj ho
   intro a9 dn vals wx hJ0 hdi hde hdj hev hsl hun
   have hJ := Lib.hid hJ0
   rw [if_pos (wanted_none rfl)]
   have f29 : (a9.tmps[29]?).getD undef = .slice (some ⟨gz, oz, none⟩) c0.co.length kz := (hsl 10 29 (hde 0 _ rfl rfl) rfl).trans (hJ.out.fv 10 _ rfl (hde 0 _ rfl rfl))
   have n12 : Hid (dn 12 = false) := hdj 12 1 _ _ rfl rfl rfl rfl
   have n14 : Hid (dn 14 = false) := hdj 14 2 _ _ rfl rfl rfl rfl
   have d5 : Hid (dn 5 = true) := hde 1 _ rfl rfl
   clear hde hdj hev hsl hun hJ0 hdi
   go_simp
   exact (CC.out wx hJ.out.below).mono fun e w9 ⟨g, cap, he, k1, k2, k3, k4, k5⟩ => ⟨_, he, hJ.out.callB (by decide) (by decide) (by decide) (by decide) d5.out n12.out n14.out rfl k5 ⟨⟨cap, rfl, k2, k3⟩, k4, Nat.le_trans hJ.out.below.size k1⟩ k1⟩
  | 12, _ =>
   obtain rfl := Option.some.inj ho
   intro a9 dn vals wx hJ0 hdi hde hdj hev hsl hun
   have hJ := Lib.hid hJ0
   rw [if_pos (wanted_none rfl)]
   have f24 : (a9.tmps[24]?).getD undef = vals 5 := hsl 5 24 (hde 0 _ rfl rfl) rfl
   have f30 : (a9.tmps[30]?).getD undef = vals 11 := hsl 11 30 (hde 1 _ rfl rfl) rfl
   have n14 : Hid (dn 14 = false) := hdj 14 1 _ _ rfl rfl rfl rfl
   have d11 : Hid (dn 11 = true) := hde 1 _ rfl rfl
   obtain ⟨g1, g2, k1, k2, -⟩ := hJ.out.fB d11.out
   obtain ⟨c1, e1, -⟩ := k1.ex
   obtain ⟨c2, e2, -⟩ := k2.ex
   rw [e1] at f24
   rw [e2] at f30
   have HF := Lib.hid (fun (v : Value) (he : v = .agg #[vals 5, vals 11]) => hJ.out.build (by decide) (by decide) (by decide) (by decide) n14.out rfl he)
   rw [e1, e2] at HF
   clear hde hdj hev hsl hun hJ0 hdi
   clear e1 e2 k1 k2
   go_simp
   exact HF.out _ rfl
  | 13, _ =>
   obtain rfl := Option.some.inj ho
   intro a9 dn vals wx hJ0 hdi hde hdj hev hsl hun
   have hJ := Lib.hid hJ0
   rw [if_pos (wanted_none rfl)]
   have n14 : Hid (dn 14 = false) := hdj 14 0 _ _ rfl rfl rfl rfl
   clear hde hdj hev hsl hun hJ0 hdi
   go_simp
   exact hJ.out.alloc (by decide) (by decide) (by decide) (by decide) n14.out rfl
  | 14, _ =>
   obtain rfl := Option.some.inj ho
   intro a9 dn vals wx hJ0 hdi hde hdj hev hsl hun
   have hJ := Lib.hid hJ0
   rw [if_pos (wanted_none rfl)]
   have f4 : (a9.tmps[4]?).getD undef = vals 13 := hsl 13 4 (hde 0 _ rfl rfl) rfl
   have f31 : (a9.tmps[31]?).getD undef = vals 12 := hsl 12 31 (hde 1 _ rfl rfl) rfl
   have d13 : Hid (dn 13 = true) := hde 0 _ rfl rfl
   have d12 : Hid (dn 12 = true) := hde 1 _ rfl rfl
   have d11 : Hid (dn 11 = true) := hde 2 _ rfl rfl
   obtain ⟨b9, eb, hr, ht, hn⟩ := hJ.out.fD d13.out hdi
   obtain ⟨g1, g2, k1, k2, -⟩ := hJ.out.fB d11.out
   obtain ⟨c1, e1, -⟩ := k1.ex
   obtain ⟨c2, e2, -⟩ := k2.ex
   rw [eb] at f4
   rw [hJ.out.fC d12.out, e1, e2] at f31
   have HF := Lib.hid (fun (v u1 u2 : Value) (x1 : u1 = vals 5) (x2 : u2 = vals 11) => hJ.out.store (v := v) (by decide) (by decide) (by decide) (by decide) rfl d11.out eb hr ht hn x1 x2)
   rw [e1, e2] at HF
   obtain ⟨q0, q1, q2, q3⟩ := hr
   clear hde hdj hev hsl hun hJ0 hdi
   clear e1 e2 k1 k2 eb ht hn
   go_simp
   exact HF.out _ _ _ rfl rfl
 ·intro dn vals wx hall hJ
  obtain ⟨b9, bA, bB, g13, hu⟩ := hJ.fS (hall 14 (by decide))
  have g12 := hJ.fC (hall 12 (by decide))
  obtain ⟨c1, e1, m1, m1'⟩ := hu.a1.ex
  obtain ⟨c2, e2, m2, m2'⟩ := hu.a2.ex
  have g5 := e1
  have g11 := e2
  rw [e1, e2] at hu g12
  have g0 := hJ.fv 0 _ rfl (hall 0 (by decide))
  have g1 := hJ.fv 1 _ rfl (hall 1 (by decide))
  have g2 := hJ.fv 2 _ rfl (hall 2 (by decide))
  have g3 := hJ.fv 3 _ rfl (hall 3 (by decide))
  have g4 := hJ.fv 4 _ rfl (hall 4 (by decide))
  have g6 := hJ.fv 6 _ rfl (hall 6 (by decide))
  have g7 := hJ.fv 7 _ rfl (hall 7 (by decide))
  have g8 := hJ.fv 8 _ rfl (hall 8 (by decide))
  have g9 := hJ.fv 9 _ rfl (hall 9 (by decide))
  have g10 := hJ.fv 10 _ rfl (hall 10 (by decide))
  have HU9 := Lib.hid hu
  have HB9 := Lib.hid hJ.below
  have HC9 := Lib.hid (And.intro (And.intro m1 m1') (And.intro m2 m2'))
  simp only [putDs, Act.put, Nat.zero_add, Nat.reduceAdd, List.setIfInBounds_toArray, List.set_cons_succ, List.set_cons_zero, g0, g1, g2, g3, g4, g5, g6, g7, g8, g9, g10, g11, g12, g13]
  clear g0 g1 g2 g3 g4 g5 g6 g7 g8 g9 g10 g11 g12 g13 hu e1 e2 m1 m1' m2 m2' hJ hall
  obtain ⟨W4, hW4⟩ : ∃ W4, W4 = wx := ⟨_, rfl⟩
  subst hW4
  clear KY CC CC0 ib0 hn0
  have HW4 := Lib.hid (below_keep HW3.out HB9.out)
  have HX4 := Lib.hid (HBX.out W4 (below_keep HB3.out HB9.out))
  have hu := HU9.out
  have g31 : w.heap.size + 2 ≤ w3.heap.size := by have := HB3.out.size; have := HS1.out; omega
  have hlA : bA < W4.heap.size := hu.a1.row.tag.lt
  have hlB : bB < W4.heap.size := hu.a2.row.tag.lt
  have hgA := hu.a1.ge
  have hgB := hu.a2.ge
  have h9A : b9 ≠ bA := fun e => hu.a1.row.tag.ne hu.tag (by decide) e.symm
  have h9B : b9 ≠ bB := fun e => hu.a2.row.tag.ne hu.tag (by decide) e.symm
  have h9l : b9 < W4.heap.size := hu.tag.lt
  have HG : Hid (bA ≠ bB ∧ w.heap.size + 2 ≤ bA ∧ w.heap.size + 2 ≤ bB ∧ b9 ≠ bA ∧ b9 ≠ bB ∧ bA < W4.heap.size ∧ bB < W4.heap.size ∧ b9 < W4.heap.size ∧ w.heap.size + 2 ≤ b9) := ⟨hu.ne, by omega, by omega, h9A, h9B, hlA, hlB, h9l, by have := hu.ge; omega⟩
  have KX : Hid (∀ w', BelowP (fun b => b = bA ∨ b = bB) W4.heap.size W4 w' → Below w.heap.size w w' ∧ w'.cell? ⟨w.heap.size, 2, none⟩ = some (.slice (some ⟨gc, oc, none⟩) L.length k3) ∧ w'.cell? ⟨b9, 0, none⟩ = some (.slice (some ⟨bA, 0, none⟩) c0.co.length c1) ∧ w'.cell? ⟨b9, 1, none⟩ = some (.slice (some ⟨bB, 0, none⟩) c0.co.length c2) ∧ ResB w' (w.heap.size + 1) (.slice none 0 0) (.slice none 0 0)) := fun w' h' => by
   obtain ⟨q1, q2, q3, q4, q5, q6, q7, q8, q9⟩ := HG.out
   have hrl : w.heap.size + 1 < W4.heap.size := World.block_lt_of_cell? _ _ HX4.out.2.c0
   have n1 : ¬ (w.heap.size + 1 = bA ∨ w.heap.size + 1 = bB) := by omega
   exact ⟨belowP_to HW4.out h' (fun k hk => by omega), cellP HX4.out.1.2.2 h' (by omega), cellP HU9.out.res.c0 h' (by omega), cellP HU9.out.res.c1 h' (by omega), cellP HX4.out.2.c0 h' n1, cellP HX4.out.2.c1 h' n1, frozP HX4.out.2.f0 h' hrl n1, frozP HX4.out.2.f1 h' hrl n1⟩
  have HR0 : Hid (RowZ W4 bA c0.co ∧ RowZ W4 bB c0.co) := ⟨hu.a1.row, hu.a2.row⟩
  obtain ⟨-, s0, -, -, -⟩ := KX.out W4 (belowP_of _ (Below.refl _ _))
  clear hu hlA hlB hgA hgB h9A h9B h9l g31
  go_wp2
  clear s0
  go_loopw [35] (fun iv wr => ∃ i : Nat, i ≤ L.length ∧ iv = .int .i64 (i : Nat) ∧ RowZ wr bA (hullL (c0.co, c0.co) (L.take i)).1 ∧ RowZ wr bB (hullL (c0.co, c0.co) (L.take i)).2 ∧ BelowP (fun b => b = bA ∨ b = bB) W4.heap.size W4 wr) (fun iv _ => L.length - (intOf iv).toNat)
  case atStart => exact ⟨0, Nat.zero_le _, rfl, HR0.out.1, HR0.out.2, belowP_of _ (Below.refl _ _)⟩
  case round =>
   obtain ⟨i, hi, rfl, hr1, hr2, hbp⟩ := hrel
   have HBP := Lib.hid hbp
   have HR1 := Lib.hid hr1
   have HR2 := Lib.hid hr2
   have HBE := Lib.hid (KX.out wr hbp).1
   clear hbp hr1 hr2
   by_cases hlt : i < L.length
   ·obtain ⟨gq, oq, c, eq, hc, hr⟩ := HLS.out.at i hlt
    injection eq with eq
    injection eq with eq1 eq2
    subst eq1 eq2
    obtain ⟨v1, v2, e1, e2, hi1, hv1⟩ := hr
    have e1 := cell_later e1 HBE.out
    have e2 := cell_later e2 HBE.out
    have HTK := Lib.hid (hullL_snoc (m := (c0.co, c0.co)) hc)
    have HCO : Hid (c.co.length = c0.co.length) := (HCL.out c (List.mem_of_getElem? hc)).trans HL0.out.2.1.symm
    have HLN : Hid ((hullL (c0.co, c0.co) (L.take i)).1.length = c0.co.length ∧ (hullL (c0.co, c0.co) (L.take i)).2.length = c0.co.length) := hullL_len rfl rfl (fun c hc => (HCL.out c (List.mem_of_mem_take hc)).trans HL0.out.2.1.symm)
    obtain ⟨lo, hlo⟩ : ∃ lo, lo = (hullL (c0.co, c0.co) (L.take i)).1 := ⟨_, rfl⟩
    obtain ⟨hi9, hhi⟩ : ∃ hi9, hi9 = (hullL (c0.co, c0.co) (L.take i)).2 := ⟨_, rfl⟩
    have hT1 : (hullL (c0.co, c0.co) (L.take (i + 1))).1 = List.zipWith min lo c.co := by rw [HTK.out, hlo]; rfl
    have hT2 : (hullL (c0.co, c0.co) (L.take (i + 1))).2 = List.zipWith max hi9 c.co := by rw [HTK.out, hhi]; rfl
    have HT := Lib.hid (And.intro hT1 hT2)
    rw [← hlo] at HR1 HLN
    rw [← hhi] at HR2 HLN
    have HI1 : Hid (i + 1 ≤ L.length ∧ L.length - (i + 1) < L.length - i) := by show _ ∧ _; omega
    obtain ⟨pq, kq, rfl, -⟩ := hi1.shape
    obtain ⟨pv, kv, rfl, -⟩ := hv1.shape
    have ib0 : (0 : Int) ≤ (i : Int) := by omega
    have ib1 : (i : Int) < (L.length : Int) := by omega
    obtain ⟨W5, hW5⟩ : ∃ W5, W5 = wr.alloc (.cells #[.slice pq c.co.length kq, .slice pv c.vals.length kv] 62) := ⟨_, rfl⟩
    have HB5 : Hid (Below wr.heap.size wr W5) := by rw [hW5]; exact below_alloc _ _
    have s1 : W5.cell? ⟨wr.heap.size, 0, none⟩ = some (.slice pq c.co.length kq) := by rw [hW5, World.cell?_alloc_at _ _ _ _ rfl]; rfl
    have HI5 := Lib.hid hi1
    have HBP5 : Hid (BelowP (fun b => b = bA ∨ b = bB) W4.heap.size W4 W5) := HBP.out.trans (belowP_of _ (HB5.out.mono HBP.out.size))
    have HWD : Hid (WdI bA bB W5 (List.zipWith min lo c.co) lo (List.zipWith max hi9 c.co) hi9 0 0 W5) := ⟨HR1.out.later HB5.out HR1.out.tag.lt, HR2.out.later HB5.out HR2.out.tag.lt, belowP_of _ (Below.refl _ _)⟩
    have hco4 : c.co.length ≤ 1000000 := by have := HCO.out; have := HL0.out; have := HD4.out; omega
    clear hc hlo hhi hT1 hT2 HTK hi1 hv1 hi hlt
    go_upto_region 7 with (fail)
    rw [← hW5]
    clear hW5 e1 e2
    go_wp2
    clear s1
    go_loopw [42] (fun iv wr => ∃ j : Nat, j ≤ c.co.length ∧ iv = .int .i64 (j : Nat) ∧ WdI bA bB W5 (List.zipWith min lo c.co) lo (List.zipWith max hi9 c.co) hi9 j j wr) (fun iv _ => c.co.length - (intOf iv).toNat)
    case atStart => exact ⟨0, Nat.zero_le _, rfl, HWD.out⟩
    case round =>
     obtain ⟨j, hj, rfl, hwd⟩ := hrel
     have HW := Lib.hid hwd
     have HBPR : Hid (BelowP (fun b => b = bA ∨ b = bB) W4.heap.size W4 wr) := HBP5.out.trans ⟨hwd.below.os, hwd.below.tape, hwd.below.output, hwd.below.size, fun k hk hc => hwd.below.block k (Nat.lt_of_lt_of_le hk HBP5.out.size) hc⟩
     have HBER := Lib.hid (KX.out wr HBPR.out).1
     by_cases hlt : j < c.co.length
     ·have HI5R : Hid (Ints wr (.slice pq c.co.length kq) c.co) := HI5.out.later IntR.lasts HBER.out
      obtain ⟨gy, oy, y, ey, hy, hry⟩ := HI5R.out.at j hlt
      subst ey
      rw [Nat.mul_one] at hry
      unfold IntR at hry
      obtain ⟨a, ha⟩ := at_lt (l := lo) (i := j) (by have := HLN.out.1; have := HCO.out; omega)
      obtain ⟨b, hb⟩ := at_lt (l := hi9) (i := j) (by have := HLN.out.2; have := HCO.out; omega)
      have HA := Lib.hid (And.intro ha (zip_get (f := min) ha hy))
      have HBB := Lib.hid (And.intro hb (zip_get (f := max) hb hy))
      have q1 := hwd.r1.cell j a (mixL_get (by rw [List.length_zipWith, HLN.out.1, HCO.out, Nat.min_self]; have := HCO.out; omega) ha)
      have q2 := hwd.r1.free j
      have q3 := hwd.r2.cell j b (mixL_get (by rw [List.length_zipWith, HLN.out.2, HCO.out, Nat.min_self]; have := HCO.out; omega) hb)
      have q4 := hwd.r2.free j
      have HI2 : Hid (j + 1 ≤ c.co.length ∧ c.co.length - (j + 1) < c.co.length - j) := by show _ ∧ _; omega
      have jb0 : (0 : Int) ≤ (j : Int) := by omega
      have jb1 : (j : Int) < (c.co.length : Int) := by omega
      have jb2 : (j : Int) < (c0.co.length : Int) := by have := HCO.out; omega
      obtain ⟨W1, hw1⟩ : ∃ W1, wr.drew.setCell ⟨bA, j, none⟩ (.int .i64 (min a y)) = W1 := ⟨_, rfl⟩
      obtain ⟨W2, hw2⟩ : ∃ W2, W1.setCell ⟨bB, j, none⟩ (.int .i64 (max b y)) = W2 := ⟨_, rfl⟩
      have HW1 := Lib.hid hw1
      have HW2 := Lib.hid hw2
      clear hw1 hw2
      have KX1 := Lib.hid (KX.out wr HBPR.out)
      have KA : Hid (∀ w', w' = wr.drew → w'.cell? ⟨bA, j, none⟩ = some (.int .i64 a) ∧ w'.frozen? ⟨bA, j, none⟩ = false ∧ w'.cell? ⟨bB, j, none⟩ = some (.int .i64 b) ∧ w'.frozen? ⟨bB, j, none⟩ = false) := fun w' e => by subst e; exact ⟨q1, q2, q3, q4⟩
      have KB : Hid (∀ w', w' = wr.drew ∨ w' = W1 → w'.cell? ⟨b9, 0, none⟩ = some (.slice (some ⟨bA, 0, none⟩) c0.co.length c1) ∧ w'.cell? ⟨b9, 1, none⟩ = some (.slice (some ⟨bB, 0, none⟩) c0.co.length c2)) := fun w' e => by
       obtain ⟨-, -, m1, m2, -⟩ := KX1.out
       rcases e with e | e
       ·subst e; exact ⟨m1, m2⟩
       ·rw [e, ← HW1.out]
        have hne : bA ≠ b9 := fun e => HG.out.2.2.2.1 e.symm
        exact ⟨by rw [World.cell?_setCell_other _ _ _ _ (fun e => by injection e with e _; exact hne e)]; exact m1, by rw [World.cell?_setCell_other _ _ _ _ (fun e => by injection e with e _; exact hne e)]; exact m2⟩
      have KC : Hid (W1.cell? ⟨bB, j, none⟩ = some (.int .i64 b) ∧ W1.frozen? ⟨bB, j, none⟩ = false) := by
       show _ ∧ _
       rw [← HW1.out]
       exact ⟨by rw [World.cell?_setCell_other _ _ _ _ (fun e => by injection e with e _; exact HG.out.1 e)]; exact q3, by rw [World.frozen?_setCell]; exact q4⟩
      clear hwd ha hb q1 q2 q3 q4 hlt hj hy HI5R
      go_upto_region 10 with (fail)
      clear hry
      refine wp_region_inv [some 47, some 48, some 49, some 50, some 51, some 52, some 53, some 54, some 55, some 56, some 57, some 58, some 59, some 60, some 61, some 62, some 63, some 64, some 65, some 66, some 67, none, some 68, none] (St2J [some (.pointer (some ⟨b9, 0, none⟩)), some (.slice (some ⟨bA, 0, none⟩) c0.co.length c1), some (.int .i64 (j : Nat)), some (.pointer (some ⟨b9, 1, none⟩)), some (.slice (some ⟨bB, 0, none⟩) c0.co.length c2), some (.int .i64 (j : Nat)), some (.pointer (some ⟨b9, 0, none⟩)), some (.slice (some ⟨bA, 0, none⟩) c0.co.length c1), some (.int .i64 (j : Nat)), some (.pointer (some ⟨bA, j, none⟩)), some (.int .i64 a), some (.int .i64 y), some (.int .i64 (min a y)), some (.pointer (some ⟨b9, 1, none⟩)), some (.slice (some ⟨bB, 0, none⟩) c0.co.length c2), some (.int .i64 (j : Nat)), some (.pointer (some ⟨bB, j, none⟩)), some (.int .i64 b), some (.int .i64 y), some (.int .i64 (max b y)), some (.pointer (some ⟨bA, j, none⟩)), none, some (.pointer (some ⟨bB, j, none⟩)), none] 21 23 wr.drew W1 W2) rfl (by kernel_rfl) (by kernel_rfl) (by kernel_rfl) (by kernel_rfl) ?_ ?_ ?_
      ·exact St2J.start rfl
      ·intro i9 op9 ho
       have hi9 : i9 < 24 := (Array.getElem?_eq_some_iff.1 ho).1
       match i9, hi9 with
       | 0, _ =>
        obtain rfl := Option.some.inj ho
        intro a9 dn vals wx hJ0 hdi hde hdj hev hsl hun
        have hJ := Lib.hid hJ0
        rw [if_pos (wanted_none rfl)]
        have f4 : (a9.tmps[4]?).getD undef = .pointer (some ⟨b9, 0, none⟩) := hev 4 (by kernel_rfl)
        clear hde hdj hev hsl hun hJ0 hdi
        go_simp
        exact hJ.out.read (by decide) (by decide) rfl
       | 1, _ =>
        obtain rfl := Option.some.inj ho
        intro a9 dn vals wx hJ0 hdi hde hdj hev hsl hun
        have hJ := Lib.hid hJ0
        rw [if_pos (wanted_none rfl)]
        have f47 : (a9.tmps[47]?).getD undef = .pointer (some ⟨b9, 0, none⟩) := (hsl 0 47 (hde 0 _ rfl rfl) rfl).trans (hJ.out.fv 0 _ rfl (hde 0 _ rfl rfl))
        have n23 : Hid (dn 23 = false) := hdj 23 4 _ _ rfl rfl rfl rfl
        have hw : wx = wr.drew := hJ.out.s0 (hdj 21 3 _ _ rfl rfl rfl rfl) n23.out
        clear hde hdj hev hsl hun hJ0 hdi
        clear n23
        obtain ⟨z0, z1⟩ := KB.out wx (.inl hw)
        clear hw
        go_simp
        exact hJ.out.read (by decide) (by decide) rfl
       | 2, _ =>
        obtain rfl := Option.some.inj ho
        intro a9 dn vals wx hJ0 hdi hde hdj hev hsl hun
        have hJ := Lib.hid hJ0
        rw [if_pos (wanted_none rfl)]
        have f7 : (a9.tmps[7]?).getD undef = .int .i64 (j : Nat) := hev 7 (by kernel_rfl)
        clear hde hdj hev hsl hun hJ0 hdi
        go_simp
        exact hJ.out.read (by decide) (by decide) rfl
       | 3, _ =>
        obtain rfl := Option.some.inj ho
        intro a9 dn vals wx hJ0 hdi hde hdj hev hsl hun
        have hJ := Lib.hid hJ0
        rw [if_pos (wanted_none rfl)]
        have f4 : (a9.tmps[4]?).getD undef = .pointer (some ⟨b9, 0, none⟩) := hev 4 (by kernel_rfl)
        clear hde hdj hev hsl hun hJ0 hdi
        go_simp
        exact hJ.out.read (by decide) (by decide) rfl
       | 4, _ =>
        obtain rfl := Option.some.inj ho
        intro a9 dn vals wx hJ0 hdi hde hdj hev hsl hun
        have hJ := Lib.hid hJ0
        rw [if_pos (wanted_none rfl)]
        have f50 : (a9.tmps[50]?).getD undef = .pointer (some ⟨b9, 1, none⟩) := (hsl 3 50 (hde 0 _ rfl rfl) rfl).trans (hJ.out.fv 3 _ rfl (hde 0 _ rfl rfl))
        have n23 : Hid (dn 23 = false) := hdj 23 7 _ _ rfl rfl rfl rfl
        have hw : wx = wr.drew ∨ wx = W1 := hJ.out.early n23.out
        clear hde hdj hev hsl hun hJ0 hdi
        clear n23
        obtain ⟨z0, z1⟩ := KB.out wx hw
        clear hw
        go_simp
        exact hJ.out.read (by decide) (by decide) rfl
       | 5, _ =>
        obtain rfl := Option.some.inj ho
        intro a9 dn vals wx hJ0 hdi hde hdj hev hsl hun
        have hJ := Lib.hid hJ0
        rw [if_pos (wanted_none rfl)]
        have f7 : (a9.tmps[7]?).getD undef = .int .i64 (j : Nat) := hev 7 (by kernel_rfl)
        clear hde hdj hev hsl hun hJ0 hdi
        go_simp
        exact hJ.out.read (by decide) (by decide) rfl
       | 6, _ =>
        obtain rfl := Option.some.inj ho
        intro a9 dn vals wx hJ0 hdi hde hdj hev hsl hun
        have hJ := Lib.hid hJ0
        rw [if_pos (wanted_none rfl)]
        have f4 : (a9.tmps[4]?).getD undef = .pointer (some ⟨b9, 0, none⟩) := hev 4 (by kernel_rfl)
        clear hde hdj hev hsl hun hJ0 hdi
        go_simp
        exact hJ.out.read (by decide) (by decide) rfl
       | 7, _ =>
        obtain rfl := Option.some.inj ho
        intro a9 dn vals wx hJ0 hdi hde hdj hev hsl hun
        have hJ := Lib.hid hJ0
        rw [if_pos (wanted_none rfl)]
        have f53 : (a9.tmps[53]?).getD undef = .pointer (some ⟨b9, 0, none⟩) := (hsl 6 53 (hde 0 _ rfl rfl) rfl).trans (hJ.out.fv 6 _ rfl (hde 0 _ rfl rfl))
        have n23 : Hid (dn 23 = false) := hdj 23 10 _ _ rfl rfl rfl rfl
        have hw : wx = wr.drew := hJ.out.s0 (hdj 21 9 _ _ rfl rfl rfl rfl) n23.out
        clear hde hdj hev hsl hun hJ0 hdi
        clear n23
        obtain ⟨z0, z1⟩ := KB.out wx (.inl hw)
        clear hw
        go_simp
        exact hJ.out.read (by decide) (by decide) rfl
       | 8, _ =>
        obtain rfl := Option.some.inj ho
        intro a9 dn vals wx hJ0 hdi hde hdj hev hsl hun
        have hJ := Lib.hid hJ0
        rw [if_pos (wanted_none rfl)]
        have f7 : (a9.tmps[7]?).getD undef = .int .i64 (j : Nat) := hev 7 (by kernel_rfl)
        clear hde hdj hev hsl hun hJ0 hdi
        go_simp
        exact hJ.out.read (by decide) (by decide) rfl
       | 9, _ =>
        obtain rfl := Option.some.inj ho
        intro a9 dn vals wx hJ0 hdi hde hdj hev hsl hun
        have hJ := Lib.hid hJ0
        rw [if_pos (wanted_none rfl)]
        have f54 : (a9.tmps[54]?).getD undef = .slice (some ⟨bA, 0, none⟩) c0.co.length c1 := (hsl 7 54 (hde 0 _ rfl rfl) rfl).trans (hJ.out.fv 7 _ rfl (hde 0 _ rfl rfl))
        have f55 : (a9.tmps[55]?).getD undef = .int .i64 (j : Nat) := (hsl 8 55 (hde 1 _ rfl rfl) rfl).trans (hJ.out.fv 8 _ rfl (hde 1 _ rfl rfl))
        clear hde hdj hev hsl hun hJ0 hdi
        go_simp
        exact hJ.out.read (by decide) (by decide) rfl
       | 10, _ =>
        obtain rfl := Option.some.inj ho
        intro a9 dn vals wx hJ0 hdi hde hdj hev hsl hun
        have hJ := Lib.hid hJ0
        rw [if_pos (wanted_none rfl)]
        have f56 : (a9.tmps[56]?).getD undef = .pointer (some ⟨bA, j, none⟩) := (hsl 9 56 (hde 0 _ rfl rfl) rfl).trans (hJ.out.fv 9 _ rfl (hde 0 _ rfl rfl))
        have n23 : Hid (dn 23 = false) := hdj 23 13 _ _ rfl rfl rfl rfl
        have hw : wx = wr.drew := hJ.out.s0 (hdj 21 12 _ _ rfl rfl rfl rfl) n23.out
        clear hde hdj hev hsl hun hJ0 hdi
        clear n23
        obtain ⟨z2, z3, z4, z5⟩ := KA.out wx hw
        clear hw
        go_simp
        exact hJ.out.read (by decide) (by decide) rfl
       | 11, _ =>
        obtain rfl := Option.some.inj ho
        intro a9 dn vals wx hJ0 hdi hde hdj hev hsl hun
        have hJ := Lib.hid hJ0
        rw [if_pos (wanted_none rfl)]
        have f8 : (a9.tmps[8]?).getD undef = .int .i64 y := hev 8 (by kernel_rfl)
        clear hde hdj hev hsl hun hJ0 hdi
        go_simp
        exact hJ.out.read (by decide) (by decide) rfl
       | 12, _ =>
        obtain rfl := Option.some.inj ho
        intro a9 dn vals wx hJ0 hdi hde hdj hev hsl hun
        have hJ := Lib.hid hJ0
        rw [if_pos (wanted_none rfl)]
        have f57 : (a9.tmps[57]?).getD undef = .int .i64 a := (hsl 10 57 (hde 0 _ rfl rfl) rfl).trans (hJ.out.fv 10 _ rfl (hde 0 _ rfl rfl))
        have f58 : (a9.tmps[58]?).getD undef = .int .i64 y := (hsl 11 58 (hde 1 _ rfl rfl) rfl).trans (hJ.out.fv 11 _ rfl (hde 1 _ rfl rfl))
        clear hde hdj hev hsl hun hJ0 hdi
        go_simp
        exact hJ.out.read (by decide) (by decide) rfl
       | 13, _ =>
        obtain rfl := Option.some.inj ho
        intro a9 dn vals wx hJ0 hdi hde hdj hev hsl hun
        have hJ := Lib.hid hJ0
        rw [if_pos (wanted_none rfl)]
        have f4 : (a9.tmps[4]?).getD undef = .pointer (some ⟨b9, 0, none⟩) := hev 4 (by kernel_rfl)
        clear hde hdj hev hsl hun hJ0 hdi
        go_simp
        exact hJ.out.read (by decide) (by decide) rfl
       | 14, _ =>
        obtain rfl := Option.some.inj ho
        intro a9 dn vals wx hJ0 hdi hde hdj hev hsl hun
        have hJ := Lib.hid hJ0
        rw [if_pos (wanted_none rfl)]
        have f60 : (a9.tmps[60]?).getD undef = .pointer (some ⟨b9, 1, none⟩) := (hsl 13 60 (hde 0 _ rfl rfl) rfl).trans (hJ.out.fv 13 _ rfl (hde 0 _ rfl rfl))
        have n23 : Hid (dn 23 = false) := hdj 23 17 _ _ rfl rfl rfl rfl
        have hw : wx = wr.drew ∨ wx = W1 := hJ.out.early n23.out
        clear hde hdj hev hsl hun hJ0 hdi
        clear n23
        obtain ⟨z0, z1⟩ := KB.out wx hw
        clear hw
        go_simp
        exact hJ.out.read (by decide) (by decide) rfl
       | 15, _ =>
        obtain rfl := Option.some.inj ho
        intro a9 dn vals wx hJ0 hdi hde hdj hev hsl hun
        have hJ := Lib.hid hJ0
        rw [if_pos (wanted_none rfl)]
        have f7 : (a9.tmps[7]?).getD undef = .int .i64 (j : Nat) := hev 7 (by kernel_rfl)
        clear hde hdj hev hsl hun hJ0 hdi
        go_simp
        exact hJ.out.read (by decide) (by decide) rfl
       | 16, _ =>
        obtain rfl := Option.some.inj ho
        intro a9 dn vals wx hJ0 hdi hde hdj hev hsl hun
        have hJ := Lib.hid hJ0
        rw [if_pos (wanted_none rfl)]
        have f61 : (a9.tmps[61]?).getD undef = .slice (some ⟨bB, 0, none⟩) c0.co.length c2 := (hsl 14 61 (hde 0 _ rfl rfl) rfl).trans (hJ.out.fv 14 _ rfl (hde 0 _ rfl rfl))
        have f62 : (a9.tmps[62]?).getD undef = .int .i64 (j : Nat) := (hsl 15 62 (hde 1 _ rfl rfl) rfl).trans (hJ.out.fv 15 _ rfl (hde 1 _ rfl rfl))
        clear hde hdj hev hsl hun hJ0 hdi
        go_simp
        exact hJ.out.read (by decide) (by decide) rfl
       | 17, _ =>
        obtain rfl := Option.some.inj ho
        intro a9 dn vals wx hJ0 hdi hde hdj hev hsl hun
        have hJ := Lib.hid hJ0
        rw [if_pos (wanted_none rfl)]
        have f63 : (a9.tmps[63]?).getD undef = .pointer (some ⟨bB, j, none⟩) := (hsl 16 63 (hde 0 _ rfl rfl) rfl).trans (hJ.out.fv 16 _ rfl (hde 0 _ rfl rfl))
        have n23 : Hid (dn 23 = false) := hdj 23 20 _ _ rfl rfl rfl rfl
        have hw : wx = wr.drew := hJ.out.s0 (hdj 21 19 _ _ rfl rfl rfl rfl) n23.out
        clear hde hdj hev hsl hun hJ0 hdi
        clear n23
        obtain ⟨z2, z3, z4, z5⟩ := KA.out wx hw
        clear hw
        go_simp
        exact hJ.out.read (by decide) (by decide) rfl
       | 18, _ =>
        obtain rfl := Option.some.inj ho
        intro a9 dn vals wx hJ0 hdi hde hdj hev hsl hun
        have hJ := Lib.hid hJ0
        rw [if_pos (wanted_none rfl)]
        have f8 : (a9.tmps[8]?).getD undef = .int .i64 y := hev 8 (by kernel_rfl)
        clear hde hdj hev hsl hun hJ0 hdi
        go_simp
        exact hJ.out.read (by decide) (by decide) rfl
       | 19, _ =>
        obtain rfl := Option.some.inj ho
        intro a9 dn vals wx hJ0 hdi hde hdj hev hsl hun
        have hJ := Lib.hid hJ0
        rw [if_pos (wanted_none rfl)]
        have f64 : (a9.tmps[64]?).getD undef = .int .i64 b := (hsl 17 64 (hde 0 _ rfl rfl) rfl).trans (hJ.out.fv 17 _ rfl (hde 0 _ rfl rfl))
        have f65 : (a9.tmps[65]?).getD undef = .int .i64 y := (hsl 18 65 (hde 1 _ rfl rfl) rfl).trans (hJ.out.fv 18 _ rfl (hde 1 _ rfl rfl))
        clear hde hdj hev hsl hun hJ0 hdi
        go_simp
        exact hJ.out.read (by decide) (by decide) rfl
       | 20, _ =>
        obtain rfl := Option.some.inj ho
        intro a9 dn vals wx hJ0 hdi hde hdj hev hsl hun
        have hJ := Lib.hid hJ0
        rw [if_pos (wanted_none rfl)]
        have f48 : (a9.tmps[48]?).getD undef = .slice (some ⟨bA, 0, none⟩) c0.co.length c1 := (hsl 1 48 (hde 0 _ rfl rfl) rfl).trans (hJ.out.fv 1 _ rfl (hde 0 _ rfl rfl))
        have f49 : (a9.tmps[49]?).getD undef = .int .i64 (j : Nat) := (hsl 2 49 (hde 1 _ rfl rfl) rfl).trans (hJ.out.fv 2 _ rfl (hde 1 _ rfl rfl))
        clear hde hdj hev hsl hun hJ0 hdi
        go_simp
        exact hJ.out.read (by decide) (by decide) rfl
       | 21, _ =>
        obtain rfl := Option.some.inj ho
        intro a9 dn vals wx hJ0 hdi hde hdj hev hsl hun
        have hJ := Lib.hid hJ0
        rw [if_pos (wanted_none rfl)]
        have f67 : (a9.tmps[67]?).getD undef = .pointer (some ⟨bA, j, none⟩) := (hsl 20 67 (hde 0 _ rfl rfl) rfl).trans (hJ.out.fv 20 _ rfl (hde 0 _ rfl rfl))
        have f59 : (a9.tmps[59]?).getD undef = .int .i64 (min a y) := (hsl 12 59 (hde 1 _ rfl rfl) rfl).trans (hJ.out.fv 12 _ rfl (hde 1 _ rfl rfl))
        have n23 : Hid (dn 23 = false) := hdj 23 2 _ _ rfl rfl rfl rfl
        have hw := hJ.out.s0 hdi n23.out
        clear hde hdj hev hsl hun hJ0 hdi
        obtain ⟨z2, z3, z4, z5⟩ := KA.out _ rfl
        rw [hw]
        go_simp
        exact hJ.out.store1 (by decide) rfl n23.out HW1.out
       | 22, _ =>
        obtain rfl := Option.some.inj ho
        intro a9 dn vals wx hJ0 hdi hde hdj hev hsl hun
        have hJ := Lib.hid hJ0
        rw [if_pos (wanted_none rfl)]
        have f51 : (a9.tmps[51]?).getD undef = .slice (some ⟨bB, 0, none⟩) c0.co.length c2 := (hsl 4 51 (hde 0 _ rfl rfl) rfl).trans (hJ.out.fv 4 _ rfl (hde 0 _ rfl rfl))
        have f52 : (a9.tmps[52]?).getD undef = .int .i64 (j : Nat) := (hsl 5 52 (hde 1 _ rfl rfl) rfl).trans (hJ.out.fv 5 _ rfl (hde 1 _ rfl rfl))
        clear hde hdj hev hsl hun hJ0 hdi
        go_simp
        exact hJ.out.read (by decide) (by decide) rfl
       | 23, _ =>
        obtain rfl := Option.some.inj ho
        intro a9 dn vals wx hJ0 hdi hde hdj hev hsl hun
        have hJ := Lib.hid hJ0
        rw [if_pos (wanted_none rfl)]
        have f68 : (a9.tmps[68]?).getD undef = .pointer (some ⟨bB, j, none⟩) := (hsl 22 68 (hde 0 _ rfl rfl) rfl).trans (hJ.out.fv 22 _ rfl (hde 0 _ rfl rfl))
        have f66 : (a9.tmps[66]?).getD undef = .int .i64 (max b y) := (hsl 19 66 (hde 1 _ rfl rfl) rfl).trans (hJ.out.fv 19 _ rfl (hde 1 _ rfl rfl))
        have d21 : Hid (dn 21 = true) := hde 2 _ rfl rfl
        have hw := hJ.out.s1 d21.out hdi
        clear hde hdj hev hsl hun hJ0 hdi
        obtain ⟨z4, z5⟩ := KC.out
        rw [hw]
        go_simp
        exact hJ.out.store2 (by decide) rfl d21.out HW2.out
      ·intro dn vals wx hall hJ
       have HS9 := Lib.hid (hJ.s2 (hall 21 (by decide)) (hall 23 (by decide)))
       have g0 := hJ.fv 0 _ rfl (hall 0 (by decide))
       have g1 := hJ.fv 1 _ rfl (hall 1 (by decide))
       have g2 := hJ.fv 2 _ rfl (hall 2 (by decide))
       have g3 := hJ.fv 3 _ rfl (hall 3 (by decide))
       have g4 := hJ.fv 4 _ rfl (hall 4 (by decide))
       have g5 := hJ.fv 5 _ rfl (hall 5 (by decide))
       have g6 := hJ.fv 6 _ rfl (hall 6 (by decide))
       have g7 := hJ.fv 7 _ rfl (hall 7 (by decide))
       have g8 := hJ.fv 8 _ rfl (hall 8 (by decide))
       have g9 := hJ.fv 9 _ rfl (hall 9 (by decide))
       have g10 := hJ.fv 10 _ rfl (hall 10 (by decide))
       have g11 := hJ.fv 11 _ rfl (hall 11 (by decide))
       have g12 := hJ.fv 12 _ rfl (hall 12 (by decide))
       have g13 := hJ.fv 13 _ rfl (hall 13 (by decide))
       have g14 := hJ.fv 14 _ rfl (hall 14 (by decide))
       have g15 := hJ.fv 15 _ rfl (hall 15 (by decide))
       have g16 := hJ.fv 16 _ rfl (hall 16 (by decide))
       have g17 := hJ.fv 17 _ rfl (hall 17 (by decide))
       have g18 := hJ.fv 18 _ rfl (hall 18 (by decide))
       have g19 := hJ.fv 19 _ rfl (hall 19 (by decide))
       have g20 := hJ.fv 20 _ rfl (hall 20 (by decide))
       have g22 := hJ.fv 22 _ rfl (hall 22 (by decide))
       simp only [putDs, Act.put, Nat.zero_add, Nat.reduceAdd, List.setIfInBounds_toArray, List.set_cons_succ, List.set_cons_zero, g0, g1, g2, g3, g4, g5, g6, g7, g8, g9, g10, g11, g12, g13, g14, g15, g16, g17, g18, g19, g20, g22]
       clear g0 g1 g2 g3 g4 g5 g6 g7 g8 g9 g10 g11 g12 g13 g14 g15 g16 g17 g18 g19 g20 g22 hJ hall
       have HSE := HS9.out
       have HWE : Hid (WdI bA bB W5 (List.zipWith min lo c.co) lo (List.zipWith max hi9 c.co) hi9 (j + 1) (j + 1) wx) := by
        show WdI _ _ _ _ _ _ _ _ _ _
        rw [HSE, ← HW2.out, ← HW1.out]
        exact (HW.out.st1 HG.out.1 (by rw [List.length_zipWith, HLN.out.1, HCO.out, Nat.min_self]) (z := wr.drew) (Below.refl _ _).drew HA.out.1 HA.out.2).st2 HG.out.1 (by rw [List.length_zipWith, HLN.out.2, HCO.out, Nat.min_self]) (Below.refl _ _) HBB.out.1 HBB.out.2
       clear HSE HS9
       go_wp2
       exact ⟨⟨j + 1, HI2.out.1, by go_num, HWE.out⟩, HI2.out.2⟩
     ·obtain rfl : j = c.co.length := by omega
      have HRE : Hid (RowZ wr bA (hullL (c0.co, c0.co) (L.take (i + 1))).1 ∧ RowZ wr bB (hullL (c0.co, c0.co) (L.take (i + 1))).2) := by
       show _ ∧ _
       rw [HT.out.1, HT.out.2]
       have m1 : (List.zipWith min lo c.co).length = c.co.length := by rw [List.length_zipWith, HLN.out.1, HCO.out, Nat.min_self]
       have m2 : (List.zipWith max hi9 c.co).length = c.co.length := by rw [List.length_zipWith, HLN.out.2, HCO.out, Nat.min_self]
       have x1 := hwd.r1
       have x2 := hwd.r2
       rw [← m1, mixL_end (by rw [m1, HLN.out.1, HCO.out])] at x1
       rw [← m2, mixL_end (by rw [m2, HLN.out.2, HCO.out])] at x2
       exact ⟨x1, x2⟩
      have hn4 : L.length ≤ 4096 := HN4.out
      clear hwd hlt hj
      go_wp2
      exact ⟨⟨i + 1, HI1.out.1, by go_num, HRE.out.1, HRE.out.2, HBPR.out⟩, HI1.out.2⟩
   ·obtain rfl : i = L.length := by omega
    rw [List.take_length] at HR1 HR2
    have HLN : Hid ((hullL (c0.co, c0.co) L).1.length = c0.co.length ∧ (hullL (c0.co, c0.co) L).2.length = c0.co.length) := hullL_len rfl rfl (fun c hc => (HCL.out c hc).trans HL0.out.2.1.symm)
    obtain ⟨⟨u1, u2⟩, u3, u4⟩ := HC9.out
    have H1 := Lib.hid (HR1.out.ints HLN.out.1 u1 u2)
    have H2 := Lib.hid (HR2.out.ints HLN.out.2 u3 u4)
    obtain ⟨-, -, z0, z1, r0, r1, r2, r3⟩ := KX.out wr HBP.out
    have HN1 : Hid (bA ≠ w.heap.size + 1 ∧ bB ≠ w.heap.size + 1) := by have := HG.out; show _ ∧ _; omega
    clear u1 u2 u3 u4 hlt hi
    go_wp2
    refine bodyPost_ret (by simp [results, Tryz.results21, go_sem, r0, r1]; try rfl) rfl ?_
    have hk : ∀ (x : Value) (l : List Int) (u u' : Value), IntsO wr x l → (∀ b, x.ownBlock = some b → b ≠ w.heap.size + 1) → IntsO ((wr.setCell ⟨w.heap.size + 1, 0, none⟩ u).setCell ⟨w.heap.size + 1, 1, none⟩ u') x l := fun x l u u' h hne =>
     (h.grown (grown_setG wr (w.heap.size + 1) 0 u) (fun r er e2 => by cases er; exact hne _ e2 rfl)).grown (grown_setG _ (w.heap.size + 1) 1 u') (fun r er e2 => by cases er; exact hne _ e2 rfl)
    exact ⟨_, _, rfl, hk _ _ _ _ H1.out (fun b hb => by simp only [Value.ownBlock, Option.some.injEq] at hb; subst hb; exact HN1.out.1), hk _ _ _ _ H2.out (fun b hb => by simp only [Value.ownBlock, Option.some.injEq] at hb; subst hb; exact HN1.out.2), (HBE.out.setCell (by simp) _).setCell (by simp) _⟩
theorem hull_any (x : ArrT) (vd va vc : Value) (w : World) (hx : ArrR w vd va vc x) (hs : StrD x.dims) (hsa : StrA x.attrs) :
  Calls Tryz.prog 21 #[.agg #[vd, va, vc]] w (RetBxB (hullQ x) w) := by
 unfold hullQ
 by_cases h : checkE x = 0
 ·rw [if_neg (fun h' => h' h)]
  cases hc : x.cells with
  | nil => exact hull_none x vd va vc w hx hs hsa h (by rw [hc]; rfl)
  | cons c l =>
   have := hull_core x c vd va vc w hx hs hsa h (by rw [hc]; rfl)
   rw [hc] at this
   exact this
 ·rw [if_pos h]
  exact hull_bad x vd va vc w hx hs hsa h
end Go.Proofs.YtkliekoheeeamaaGreatDoor
/- Hull of the reference: the region that copies the first cell's coordinates twice. -/
namespace Go.Proofs.YtkliekoheeeamaaGreatDoor
open Go.RowKit

theorem NewR.kept {n₀ g : Nat} {w w' : World} {v : Value} {l : List Int} {row : Option Nat} (h : NewR n₀ w v l g) (hg : w.grownBy w' row) (hr : row ≠ some g) : NewR n₀ w' v l g := ⟨h.ex, h.row.kept (hg.block g h.row.tag.lt (fun e => hr e.symm)), h.ge⟩
theorem NewR.own {n₀ g : Nat} {w : World} {v : Value} {l : List Int} (h : NewR n₀ w v l g) : v.ownBlock = some g := by obtain ⟨c, e, -⟩ := h.ex; rw [e]; rfl
theorem NewR.of {base cap g : Nat} {w : World} {l : List Int} (h : w.ownsRow base 3 1 (.slice (some ⟨g, 0, none⟩) l.length cap) l.length (l.map (Value.int .i64))) : NewR base w (.slice (some ⟨g, 0, none⟩) l.length cap) l g := by
 obtain ⟨h1, h2, h3, h4⟩ := RowZ.of_owns h
 exact ⟨⟨cap, rfl, h3, h4⟩, h1, h2⟩
structure TzJ (VL : List (Option Value)) (j0 jA j7 jB jC jD jS : Nat) (W0 : World) (l : List Int) (dn : Nat → Bool) (vals : Nat → Value) (w : World) : Prop where
 below : Below W0.heap.size W0 w
 f0 : dn j0 = true → dn jA = false → ∃ b, vals j0 = .slice (some ⟨b, 0, none⟩) 0 0 ∧ w.ownsRow W0.heap.size 3 1 (vals j0) 0 []
 f7 : dn j7 = true → dn jB = false → ∃ b, vals j7 = .slice (some ⟨b, 0, none⟩) 0 0 ∧ w.ownsRow W0.heap.size 3 1 (vals j7) 0 [] ∧ (dn jA = false → dn j0 = true → (vals j0).ownBlock ≠ some b) ∧ (dn jA = true → (vals jA).ownBlock ≠ some b)
 fA : dn jA = true → ∃ g, NewR W0.heap.size w (vals jA) l g
 fB : dn jB = true → ∃ g1 g2, NewR W0.heap.size w (vals jA) l g1 ∧ NewR W0.heap.size w (vals jB) l g2 ∧ g1 ≠ g2
 fC : dn jC = true → vals jC = .agg #[vals jA, vals jB]
 fD : dn jD = true → dn jS = false → ∃ b, vals jD = .pointer (some ⟨b, 0, none⟩) ∧ ResB w b (.slice none 0 0) (.slice none 0 0) ∧ TagB w b 26 ∧ W0.heap.size ≤ b
 fS : dn jS = true → ∃ b g1 g2, vals jD = .pointer (some ⟨b, 0, none⟩) ∧ HuB W0.heap.size b g1 g2 w (vals jA) (vals jB) l l
 fv : Told VL dn vals
section
variable {VL : List (Option Value)} {j0 jA j7 jB jC jD jS : Nat} {W0 : World} {l : List Int} {dn : Nat → Bool} {vals : Nat → Value} {w : World}
theorem TzJ.start {W : World} (h : Below W0.heap.size W0 W) : TzJ VL j0 jA j7 jB jC jD jS W0 l (fun _ => false) (fun _ => undef) W :=
 ⟨h, fun h => Bool.noConfusion h, fun h => Bool.noConfusion h, fun h => Bool.noConfusion h, fun h => Bool.noConfusion h, fun h => Bool.noConfusion h, fun h => Bool.noConfusion h, fun h => Bool.noConfusion h, fun _ _ _ h => Bool.noConfusion h⟩
theorem row_later {w w' : World} {base : Nat} {v : Value} {n : Nat} {xs : List Value} (h : w.ownsRow base 3 1 v n xs) (hb : Below w.heap.size w w') : w'.ownsRow base 3 1 v n xs := h.kept (row := none) (grown_of_below hb none) (by cases v.ownBlock <;> simp)
theorem TzJ.step {i : Nat} {v : Value} {w' : World} (h : TzJ VL j0 jA j7 jB jC jD jS W0 l dn vals w) (h0 : j0 ≠ i) (h7 : j7 ≠ i) (hA : jA ≠ i) (hB : jB ≠ i) (hC : jC ≠ i) (hD : jD ≠ i) (hS : jS ≠ i) (ns : dn jS = false) (hv : VL[i]? = some (some v) ∨ VL[i]? = some none) (hb : Below w.heap.size w w') : TzJ VL j0 jA j7 jB jC jD jS W0 l (upd dn i) (updV vals i v) w' := by
 refine ⟨below_keep h.below hb, ?_, ?_, ?_, ?_, ?_, ?_, ?_, h.fv.step hv⟩
 ·rw [upd_ne h0, upd_ne hA, updV_ne h0]; intro h1 h2; obtain ⟨b, e, k⟩ := h.f0 h1 h2; exact ⟨b, e, row_later k hb⟩
 ·rw [upd_ne h7, upd_ne hB, upd_ne hA, upd_ne h0, updV_ne h7, updV_ne h0, updV_ne hA]; intro h1 h2; obtain ⟨b, e, k1, k2⟩ := h.f7 h1 h2; exact ⟨b, e, row_later k1 hb, k2⟩
 ·rw [upd_ne hA, updV_ne hA]; intro hd; obtain ⟨g, hg⟩ := h.fA hd; exact ⟨g, hg.later hb⟩
 ·rw [upd_ne hB, updV_ne hA, updV_ne hB]; intro hd; obtain ⟨g1, g2, k1, k2, k3⟩ := h.fB hd; exact ⟨g1, g2, k1.later hb, k2.later hb, k3⟩
 ·rw [upd_ne hC, updV_ne hA, updV_ne hB, updV_ne hC]; exact h.fC
 ·rw [upd_ne hD, upd_ne hS, updV_ne hD]; intro h1 h2; obtain ⟨b, e, k1, k2, k3⟩ := h.fD h1 h2; exact ⟨b, e, k1.later hb k2.lt, k2.kept (hb.block _ k2.lt), k3⟩
 ·rw [upd_ne hS, ns]; exact fun h => Bool.noConfusion h
theorem TzJ.build (h : TzJ VL j0 jA j7 jB jC jD jS W0 l dn vals w) (h0 : j0 ≠ jC) (h7 : j7 ≠ jC) (hA : jA ≠ jC) (hB : jB ≠ jC) (hD : jD ≠ jC) (hS : jS ≠ jC) (dA : dn jA = true) (dB : dn jB = true) (ns : dn jS = false) (hv : VL[jC]? = some none) {v : Value} (he : v = .agg #[vals jA, vals jB]) : TzJ VL j0 jA j7 jB jC jD jS W0 l (upd dn jC) (updV vals jC v) w := by
 subst he
 refine ⟨h.below, ?_, ?_, ?_, ?_, ?_, ?_, ?_, h.fv.step (.inr hv)⟩
 ·rw [upd_ne h0, upd_ne hA, dA]; exact fun _ h => Bool.noConfusion h
 ·rw [upd_ne h7, upd_ne hB, dB]; exact fun _ h => Bool.noConfusion h
 ·rw [upd_ne hA, updV_ne hA]; exact h.fA
 ·rw [upd_ne hB, updV_ne hA, updV_ne hB]; exact h.fB
 ·rw [updV_at, updV_ne hA, updV_ne hB]; exact fun _ => rfl
 ·rw [upd_ne hD, upd_ne hS, updV_ne hD]; exact h.fD
 ·rw [upd_ne hS, ns]; exact fun h => Bool.noConfusion h
theorem TzJ.alloc (h : TzJ VL j0 jA j7 jB jC jD jS W0 l dn vals w) (h0 : j0 ≠ jD) (h7 : j7 ≠ jD) (hA : jA ≠ jD) (hB : jB ≠ jD) (hC : jC ≠ jD) (hS : jS ≠ jD) (ns : dn jS = false) (hv : VL[jD]? = some none) : TzJ VL j0 jA j7 jB jC jD jS W0 l (upd dn jD) (updV vals jD (.pointer (some ⟨w.heap.size, 0, none⟩))) (w.alloc (.cells #[.slice none 0 0, .slice none 0 0] 26)) := by
 have hb : Below w.heap.size w (w.alloc (.cells #[.slice none 0 0, .slice none 0 0] 26)) := below_alloc _ _
 refine ⟨below_keep h.below hb, ?_, ?_, ?_, ?_, ?_, ?_, ?_, h.fv.step (.inr hv)⟩
 ·rw [upd_ne h0, upd_ne hA, updV_ne h0]; intro h1 h2; obtain ⟨b, e, k⟩ := h.f0 h1 h2; exact ⟨b, e, row_later k hb⟩
 ·rw [upd_ne h7, upd_ne hB, upd_ne hA, upd_ne h0, updV_ne h7, updV_ne h0, updV_ne hA]; intro h1 h2; obtain ⟨b, e, k1, k2⟩ := h.f7 h1 h2; exact ⟨b, e, row_later k1 hb, k2⟩
 ·rw [upd_ne hA, updV_ne hA]; intro hd; obtain ⟨g, hg⟩ := h.fA hd; exact ⟨g, hg.later hb⟩
 ·rw [upd_ne hB, updV_ne hA, updV_ne hB]; intro hd; obtain ⟨g1, g2, k1, k2, k3⟩ := h.fB hd; exact ⟨g1, g2, k1.later hb, k2.later hb, k3⟩
 ·rw [upd_ne hC, updV_ne hA, updV_ne hB, updV_ne hC]; exact h.fC
 ·rw [updV_at]; exact fun _ _ => ⟨_, rfl, ResB.made w _, ⟨_, _, World.alloc_heap_new w _⟩, h.below.size⟩
 ·rw [upd_ne hS, ns]; exact fun h => Bool.noConfusion h
theorem TzJ.store (h : TzJ VL j0 jA j7 jB jC jD jS W0 l dn vals w) (h0 : j0 ≠ jS) (h7 : j7 ≠ jS) (hA : jA ≠ jS) (hB : jB ≠ jS) (hC : jC ≠ jS) (hD : jD ≠ jS) (hv : VL[jS]? = some none) (dA : dn jA = true) (dB : dn jB = true) {b : Nat} (he : vals jD = .pointer (some ⟨b, 0, none⟩)) (h1 : ResB w b (.slice none 0 0) (.slice none 0 0)) (h2 : TagB w b 26) (h3 : W0.heap.size ≤ b) {v u1 u2 : Value} (e1 : u1 = vals jA) (e2 : u2 = vals jB) :
  TzJ VL j0 jA j7 jB jC jD jS W0 l (upd dn jS) (updV vals jS v) ((w.setCell ⟨b, 0, none⟩ u1).setCell ⟨b, 1, none⟩ u2) := by
 subst e1 e2
 obtain ⟨g1, g2, k1, k2, k3⟩ := h.fB dB
 have hn : ∀ x, x ≠ b → ((w.setCell ⟨b, 0, none⟩ (vals jA)).setCell ⟨b, 1, none⟩ (vals jB)).heap[x]? = w.heap[x]? := fun x hx => set2_blockB w b x _ _ hx
 have n1 : g1 ≠ b := k1.row.tag.ne h2 (by decide)
 have n2 : g2 ≠ b := k2.row.tag.ne h2 (by decide)
 have m1 : NewR W0.heap.size ((w.setCell ⟨b, 0, none⟩ (vals jA)).setCell ⟨b, 1, none⟩ (vals jB)) (vals jA) l g1 := ⟨k1.ex, k1.row.kept (hn _ n1), k1.ge⟩
 have m2 : NewR W0.heap.size ((w.setCell ⟨b, 0, none⟩ (vals jA)).setCell ⟨b, 1, none⟩ (vals jB)) (vals jB) l g2 := ⟨k2.ex, k2.row.kept (hn _ n2), k2.ge⟩
 refine ⟨(h.below.setCell (p := ⟨b, 0, none⟩) h3 _).setCell (p := ⟨b, 1, none⟩) h3 _, ?_, ?_, ?_, ?_, ?_, ?_, ?_, h.fv.step (.inr hv)⟩
 ·rw [upd_ne h0, upd_ne hA, dA]; exact fun _ h => Bool.noConfusion h
 ·rw [upd_ne h7, upd_ne hB, dB]; exact fun _ h => Bool.noConfusion h
 ·rw [updV_ne hA]; exact fun _ => ⟨g1, m1⟩
 ·rw [updV_ne hA, updV_ne hB]; exact fun _ => ⟨g1, g2, m1, m2, k3⟩
 ·rw [upd_ne hC, updV_ne hA, updV_ne hB, updV_ne hC]; exact h.fC
 ·rw [upd_at]; exact fun _ h => Bool.noConfusion h
 ·rw [updV_ne hA, updV_ne hB, updV_ne hD]
  refine fun _ => ⟨b, g1, g2, he, ⟨?_, ?_, ?_, ?_⟩, m1, m2, k3, (h2.setCell _ _).setCell _ _, h3⟩
  ·rw [World.cell?_setCell_other _ _ _ _ (fun e => by injection e with _ e; cases e)]; exact World.cell?_setCell_same _ _ _ h1.c0
  ·exact World.cell?_setCell_same _ _ _ (by rw [World.cell?_setCell_other _ _ _ _ (fun e => by injection e with _ e; cases e)]; exact h1.c1)
  ·rw [World.frozen?_setCell, World.frozen?_setCell]; exact h1.f0
  ·rw [World.frozen?_setCell, World.frozen?_setCell]; exact h1.f1
end
end Go.Proofs.YtkliekoheeeamaaGreatDoor
/- The reference's Hull: the contract. (printed by rhull.py) -/
namespace Go.Proofs.YtkliekoheeeamaaGreatDoor
open Go.RowKit Go.Shelf
attribute [local go_sem] Oper.semAt_some

end Go.Proofs.YtkliekoheeeamaaGreatDoor
