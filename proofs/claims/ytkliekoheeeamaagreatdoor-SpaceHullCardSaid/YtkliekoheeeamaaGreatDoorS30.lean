/- Lemmas and contracts, each under its own condition: SpaceLayout: the plain law: the homes are the chunks around whose wide boxes have the coordinates. The reference of layer 2, contract: Wide. (printed by rwide.py) -/
import Derived.IntWalk
import Derived.Deep.DeepCutAuto
import Derived.Deep.CutBlock
import Derived.Test.YtkliekoheeeamaaGreatDoorS21
import Derived.Test.YtkliekoheeeamaaGreatDoorS27
import Derived.Test.YtkliekoheeeamaaGreatDoorS28
/- SpaceLayout: the plain law: the homes are the chunks around whose wide boxes have the coordinates. -/
namespace Go.Proofs.YtkliekoheeeamaaGreatDoor

theorem hasL_iff : ∀ {lo hi c : List Int}, lo.length = c.length → hi.length = c.length → (hasL lo hi c = true ↔ ∀ (i : Nat) (a b x : Int), lo[i]? = some a → hi[i]? = some b → c[i]? = some x → a ≤ x ∧ upB x b = true)
 | [], hi, c, _, _ => by simp [hasL]
 | l :: ls, h :: hs, x :: xs, h1, h2 => by
  have ih := hasL_iff (lo := ls) (hi := hs) (c := xs) (by simpa using h1) (by simpa using h2)
  rw [hasL]
  constructor
  ·intro hh i a b y ha hb hy
   split at hh
   ·cases hh
   ·rename_i hg
    cases i with
    | zero =>
     simp at ha hb hy
     subst ha hb hy
     refine ⟨Classical.byContradiction fun h9 => hg (.inl (by omega)), ?_⟩
     cases h9 : upB x h with
     | true => rfl
     | false => exact absurd (.inr h9) hg
    | succ i => exact ih.1 hh i a b y (by simpa using ha) (by simpa using hb) (by simpa using hy)
  ·intro hh
   have h0 := hh 0 l h x rfl rfl rfl
   rw [if_neg (by rw [h0.2]; simp; omega)]
   exact ih.2 fun i a b y ha hb hy => hh (i + 1) a b y (by simpa using ha) (by simpa using hb) (by simpa using hy)
 | l :: ls, [], c, h1, h2 => by cases c <;> simp at h1 h2
 | l :: ls, h :: hs, [], h1, _ => by simp at h1
end Go.Proofs.YtkliekoheeeamaaGreatDoor
/- The reference of layer 2, contract: Wide. (printed by rwide.py) -/
namespace Go.Proofs.YtkliekoheeeamaaGreatDoor
open Go.RowKit
attribute [local go_sem] Oper.semAt_some

theorem boxm_at' (w : World) (v1 v2 : Value) : ∃ W1, W1 = w.alloc (.cells #[v1, v2] 26) ∧ Below w.heap.size w W1 ∧ ∀ w', Below W1.heap.size W1 w' → w'.cell? ⟨w.heap.size, 0, none⟩ = some v1 ∧ w'.cell? ⟨w.heap.size, 1, none⟩ = some v2 := by
 refine ⟨_, rfl, below_alloc _ _, fun w' hb => ?_⟩
 have h1 : ∀ j, w'.cell? ⟨w.heap.size, j, none⟩ = (w.alloc (.cells #[v1, v2] 26)).cell? ⟨w.heap.size, j, none⟩ := fun j => hb.cell (p := ⟨w.heap.size, j, none⟩) (by simp)
 exact ⟨by rw [h1, World.cell?_alloc_at _ _ _ _ rfl]; rfl, by rw [h1, World.cell?_alloc_at _ _ _ _ rfl]; rfl⟩
/-- what is known in a region of reads and calls with one store at its end -/
structure StJ (VL : List (Option Value)) (js : Nat) (C D : World → Prop) (dn : Nat → Bool) (vals : Nat → Value) (w : World) : Prop where
 pre : dn js = false → C w
 post : dn js = true → D w
 fv : Told VL dn vals
section
variable {VL : List (Option Value)} {js : Nat} {C D : World → Prop} {dn : Nat → Bool} {vals : Nat → Value} {w : World}
theorem StJ.start (hC : C w) : StJ VL js C D (fun _ => false) (fun _ => undef) w := ⟨fun _ => hC, fun h => Bool.noConfusion h, fun _ _ _ h => Bool.noConfusion h⟩
theorem StJ.read {i : Nat} {v : Value} {w' : World} (h : StJ VL js C D dn vals w) (hi : js ≠ i) (hds : dn js = false) (hv : VL[i]? = some (some v)) (hC : C w') : StJ VL js C D (upd dn i) (updV vals i v) w' :=
 ⟨fun _ => hC, (fun hd => by rw [upd_ne hi, hds] at hd; cases hd), h.fv.step (.inl hv)⟩
theorem StJ.store {v : Value} {w' : World} (h : StJ VL js C D dn vals w) (hv : VL[js]? = some none) (hD : D w') : StJ VL js C D (upd dn js) (updV vals js v) w' :=
 ⟨(fun hd => by rw [upd_at] at hd; cases hd), fun _ => hD, h.fv.step (.inr hv)⟩
end
/-- the first elements of one list, the others of another -/
def mixL (a b : List Int) (i : Nat) : List Int := a.take i ++ b.drop i
theorem mixL_end {a b : List Int} (h : b.length = a.length) : mixL a b a.length = a := by unfold mixL; rw [List.take_length, ← h, List.drop_length, List.append_nil]
theorem mixL_length {a b : List Int} (h : b.length = a.length) {i : Nat} (hi : i ≤ a.length) : (mixL a b i).length = a.length := by unfold mixL; rw [List.length_append, List.length_take, List.length_drop]; omega
theorem mixL_get {a b : List Int} {i : Nat} {x : Int} (hi : i ≤ a.length) (h : b[i]? = some x) : (mixL a b i)[i]? = some x := by
 unfold mixL
 rw [List.getElem?_append_right (by rw [List.length_take]; omega), List.length_take, Nat.min_eq_left hi, Nat.sub_self, drop_cons h]; rfl
theorem mixL_set {a b : List Int} {i : Nat} {x y : Int} (h : b[i]? = some x) (ha : a[i]? = some y) : (mixL a b i).set i y = mixL a b (i + 1) := by
 have hi : i ≤ a.length := Nat.le_of_lt (lt_at ha)
 have hl : (a.take i).length = i := by rw [List.length_take]; omega
 unfold mixL
 rw [drop_cons h, take_snoc' ha, List.set_append_right _ _ (by omega), hl, Nat.sub_self, List.set_cons_zero, List.append_assoc]
 rfl
/-- the two rows, i elements of which are widened -/
structure WdI (g1 g2 : Nat) (W2 : World) (wl cl wh ch : List Int) (i j : Nat) (w : World) : Prop where
 r1 : RowZ w g1 (mixL wl cl i)
 r2 : RowZ w g2 (mixL wh ch j)
 below : BelowP (fun b => b = g1 ∨ b = g2) W2.heap.size W2 w
theorem WdI.later {g1 g2 : Nat} {W2 : World} {wl cl wh ch : List Int} {i j : Nat} {w w' : World} (h : WdI g1 g2 W2 wl cl wh ch i j w) (hb : Below w.heap.size w w') : WdI g1 g2 W2 wl cl wh ch i j w' :=
 ⟨h.r1.later hb h.r1.tag.lt, h.r2.later hb h.r2.tag.lt, h.below.trans (belowP_of _ (hb.mono h.below.size))⟩
theorem WdI.st1 {g1 g2 : Nat} {W2 : World} {wl cl wh ch : List Int} {i j : Nat} {w z : World} (h : WdI g1 g2 W2 wl cl wh ch i j w) (hne : g1 ≠ g2) (hl : cl.length = wl.length) (hb : Below w.heap.size w z) {x y : Int} (hx : cl[i]? = some x) (hy : wl[i]? = some y) : WdI g1 g2 W2 wl cl wh ch (i + 1) j (z.setCell ⟨g1, i, none⟩ (.int .i64 y)) := by
 have hz := h.later hb
 have := hz.r1.set i y (by rw [mixL_length hl (Nat.le_of_lt (lt_at hy))]; exact lt_at hy) rfl
 rw [mixL_set hx hy] at this
 exact ⟨this, hz.r2.kept (Below.heap_setCell z ⟨g1, i, none⟩ _ g2 (Ne.symm hne)), hz.below.setCell (p := ⟨g1, i, none⟩) (.inl rfl) _⟩
theorem WdI.st2 {g1 g2 : Nat} {W2 : World} {wl cl wh ch : List Int} {i j : Nat} {w z : World} (h : WdI g1 g2 W2 wl cl wh ch i j w) (hne : g1 ≠ g2) (hl : ch.length = wh.length) (hb : Below w.heap.size w z) {x y : Int} (hx : ch[j]? = some x) (hy : wh[j]? = some y) : WdI g1 g2 W2 wl cl wh ch i (j + 1) (z.setCell ⟨g2, j, none⟩ (.int .i64 y)) := by
 have hz := h.later hb
 have := hz.r2.set j y (by rw [mixL_length hl (Nat.le_of_lt (lt_at hy))]; exact lt_at hy) rfl
 rw [mixL_set hx hy] at this
 exact ⟨hz.r1.kept (Below.heap_setCell z ⟨g2, j, none⟩ _ g1 hne), this, hz.below.setCell (p := ⟨g2, j, none⟩) (.inr rfl) _⟩
theorem frozP {c : Nat → Prop} {w w' : World} {g o : Nat} (h : w.frozen? ⟨g, o, none⟩ = false) (hb : BelowP c w.heap.size w w') (hg : g < w.heap.size) (hc : ¬ c g) : w'.frozen? ⟨g, o, none⟩ = false :=
 (World.frozen?_of_block (a := ⟨g, o, none⟩) (hb.block g hg hc)).trans h
end Go.Proofs.YtkliekoheeeamaaGreatDoor
