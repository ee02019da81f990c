/- Lemmas and contracts, each under its own condition: Fronts and ends of lists as they lie in memory. Lists of cells that were made here, of older parts. What a cell takes. -/
import Derived.Test.YthlkcppbljpooaaGreatDoorS2
import Derived.Test.YthlkcppbljpooaaGreatDoorS3
import Derived.Test.YthlkcppbljpooaaGreatDoorS57
/- Fronts and ends of lists as they lie in memory. -/
namespace Go.Proofs.YthlkcppbljpooaaGreatDoor
open Go.RowKit

theorem two_at (w : World) (u1 u2 : Value) (t : TypeId) : ∀ j u, [u1, u2][j]? = some u → (w.alloc (.cells #[u1, u2] t)).cell? ((⟨w.heap.size, 0, none⟩ : Addr).add j) = some u := fun j u h => by
 have e : ((⟨w.heap.size, 0, none⟩ : Addr).add j) = ⟨w.heap.size, j, none⟩ := by unfold Addr.add; split <;> simp_all
 rw [e, World.cell?_alloc_at _ _ _ _ rfl]
 simpa using h
/-- what is left behind the first elements -/
theorem Ls.behind {α : Type} {k : Nat} {Rd : World → Nat → Nat → α → Prop} {w : World} {g o n cap m : Nat} {l : List α} (h : Ls k Rd w (.slice (some ⟨g, o, none⟩) n cap) l) (hm : m ≤ l.length) : Ls k Rd w (.slice (some ⟨g, o + m * k, none⟩) (l.length - m) (cap - m)) (l.drop m) := by
 obtain ⟨a, cap', e, h1, h2, h3⟩ := h
 injection e with e1 e2 e3
 subst e1 e2 e3
 refine ⟨_, _, by rw [List.length_drop], by rw [List.length_drop]; omega, by omega, fun h0 => ?_⟩
 rw [List.length_drop] at h0
 obtain ⟨g', o', e, hx⟩ := h3 (by omega)
 injection e with e
 injection e with e1 e2
 subst e1 e2
 refine ⟨_, _, rfl, fun i x hi => ?_⟩
 rw [List.getElem?_drop] at hi
 have := hx _ x hi
 rw [Nat.add_mul, ← Nat.add_assoc] at this
 exact this
theorem Ls.front {α : Type} {k : Nat} {Rd : World → Nat → Nat → α → Prop} {w : World} {a : Option Addr} {n cap m : Nat} {l : List α} (h : Ls k Rd w (.slice a n cap) l) (hm : m ≤ l.length) : Ls k Rd w (.slice a m cap) (l.take m) := by
 obtain ⟨a', cap', e, h1, h2, h3⟩ := h
 injection e with e1 e2 e3
 subst e1 e2 e3
 refine ⟨_, _, by rw [List.length_take, Nat.min_eq_left hm], by rw [List.length_take]; omega, by omega, fun h0 => ?_⟩
 rw [List.length_take] at h0
 obtain ⟨g', o', e, hx⟩ := h3 (by omega)
 refine ⟨_, _, e, fun i x hi => ?_⟩
 rw [List.getElem?_take] at hi
 split at hi
 ·exact hx i x hi
 ·cases hi
theorem pairs_of {P : Nat → Value × Value → Prop} : ∀ (n : Nat), (∀ i, i < n → ∃ p, P i p) → ∃ us : List (Value × Value), us.length = n ∧ ∀ i u, us[i]? = some u → P i u
 | 0, _ => ⟨[], rfl, fun i u h => by simp at h⟩
 | n + 1, h => by
  obtain ⟨us, h1, h2⟩ := pairs_of n fun i hi => h i (by omega)
  obtain ⟨p, hp⟩ := h n (by omega)
  refine ⟨us ++ [p], by simp [h1], fun i u hi => ?_⟩
  by_cases hlt : i < us.length
  ·rw [List.getElem?_append_left hlt] at hi
   exact h2 i u hi
  ·have he : i = n := by
    have := (List.getElem?_eq_some_iff.1 hi).1
    simp at this; omega
   rw [List.getElem?_append_right (by omega), he, h1, Nat.sub_self] at hi
   simp only [List.getElem?_cons_zero, Option.some.injEq] at hi
   rw [← hi, he]; exact hp
def lenV : Value → Nat
 | .slice _ n _ => n
 | _ => 0
/-- what is left behind the first element, as the model writes it -/
theorem Ls.tail1 {α : Type} {Rd : World → Nat → Nat → α → Prop} {w : World} {g o n cap : Nat} {x : α} {l : List α} (h : Ls 2 Rd w (.slice (some ⟨g, o, none⟩) n cap) (x :: l)) : Ls 2 Rd w (.slice (if cap = 1 then some ⟨g, o, none⟩ else some ⟨g, o + 2, none⟩) (n - 1) (cap - 1)) l := by
 have hb := h.behind (m := 1) (by simp)
 obtain ⟨a, cap', e, h1, h2, -⟩ := h
 injection e with e1 e2 e3
 subst e1 e2 e3
 rw [List.drop_succ_cons, List.drop_zero, Nat.one_mul] at hb
 split
 ·rename_i hc
  have hl : l = [] := List.length_eq_zero_iff.1 (by simp at h1; omega)
  subst hl
  exact Ls.nil _ _ _ (by omega)
 ·exact hb
end Go.Proofs.YthlkcppbljpooaaGreatDoor
/- Lists of cells that were made here, of older parts. -/
namespace Go.Proofs.YthlkcppbljpooaaGreatDoor
open Go.RowKit

/-- a list of cells that was made here, the parts of the cells being those of an older world -/
structure CutO (n₀ : Nat) (w0 w : World) (v : Value) (l : List CellT) : Prop where
 ex : ∃ us : List (Value × Value), us.length = l.length ∧ w.ownsRow n₀ 38 2 v l.length (us.flatMap fun u => [u.1, u.2]) ∧ ∀ (i : Nat) (c : CellT) (u : Value × Value), l[i]? = some c → us[i]? = some u → Ints w0 u.1 c.co ∧ Vals w0 u.2 c.vals
theorem CutO.nil (n₀ : Nat) (w0 w : World) : CutO n₀ w0 w (.slice none 0 0) [] := ⟨[], rfl, World.ownsRow_nil _ _ _ _, fun i x u h => by simp at h⟩
theorem CutO.later {n₀ : Nat} {w0 w w' : World} {v : Value} {l : List CellT} (h : CutO n₀ w0 w v l) (hb : Below w.heap.size w w') : CutO n₀ w0 w' v l := by
 obtain ⟨us, h1, h2, h3⟩ := h
 exact ⟨us, h1, h2.kept (row := none) (grown_of_below hb none) (by cases v.ownBlock <;> simp), h3⟩
theorem CutO.snoc {n₀ : Nat} {w0 w' : World} {v' u1 u2 : Value} {l : List CellT} {c : CellT} {us : List (Value × Value)} (hl : us.length = l.length) (hx : ∀ (i : Nat) (c : CellT) (u : Value × Value), l[i]? = some c → us[i]? = some u → Ints w0 u.1 c.co ∧ Vals w0 u.2 c.vals)
  (hn : w'.ownsRow n₀ 38 2 v' (l.length + 1) ((us.flatMap fun u => [u.1, u.2]) ++ [u1, u2])) (h1 : Ints w0 u1 c.co) (h2 : Vals w0 u2 c.vals) : CutO n₀ w0 w' v' (l ++ [c]) := by
 refine ⟨us ++ [(u1, u2)], by simp [hl], by simpa using hn, fun i y z hi hz => ?_⟩
 by_cases hlt : i < l.length
 ·rw [List.getElem?_append_left hlt] at hi
  rw [List.getElem?_append_left (by omega)] at hz
  exact hx i y z hi hz
 ·rw [List.getElem?_append_right (by omega)] at hi hz
  rw [hl] at hz
  have h0 : i - l.length = 0 := by
   have := (List.getElem?_eq_some_iff.1 hi).1
   simp at this; omega
  rw [h0] at hi hz
  simp only [List.getElem?_cons_zero, Option.some.injEq] at hi hz
  subst hi hz
  exact ⟨h1, h2⟩
theorem CutO.cells {n₀ : Nat} {w0 w : World} {v : Value} {l : List CellT} (h : CutO n₀ w0 w v l) (hb : Below w0.heap.size w0 w) : CellsA w v l := by
 obtain ⟨us, hl, ho, hx⟩ := h
 have hc : ∀ {g : Nat}, v.ownBlock = some g → ∀ j u, (us.flatMap fun u => [u.1, u.2])[j]? = some u → w.cell? ((⟨g, 0, none⟩ : Addr).add j) = some u := fun hg => ho.cells hg
 rcases ho.2 with ⟨rfl, h0⟩ | ⟨g, cap, cur, rfl, h1, h2, h3, h4, h5, h6⟩
 ·have : l = [] := List.length_eq_zero_iff.1 h0
  subst this
  exact Ls.nil _ _ _ (by omega)
 ·unfold maxLen at h4
  refine ⟨_, cap, rfl, h3, h4, fun h0 => ⟨g, 0, rfl, fun i x hi => ?_⟩⟩
  have hlt : i < us.length := by rw [hl]; exact (List.getElem?_eq_some_iff.1 hi).1
  have hu := List.getElem?_eq_getElem hlt
  have f0 := flat_at (k := 2) (f := fun u : Value × Value => [u.1, u.2]) (fun _ => rfl) us i us[i] 0 us[i].1 hu rfl
  have f1 := flat_at (k := 2) (f := fun u : Value × Value => [u.1, u.2]) (fun _ => rfl) us i us[i] 1 us[i].2 hu rfl
  have e0 := hc (g := g) rfl _ _ f0
  have e1 := hc (g := g) rfl _ _ f1
  rw [show (⟨g, 0, none⟩ : Addr).add (i * 2 + 0) = ⟨g, 0 + i * 2, none⟩ from by unfold Addr.add; split <;> simp_all] at e0
  rw [show (⟨g, 0, none⟩ : Addr).add (i * 2 + 1) = ⟨g, 0 + i * 2 + 1, none⟩ from by unfold Addr.add; split <;> simp_all] at e1
  have hce := hx i x us[i] hi hu
  exact ⟨us[i].1, us[i].2, e0, e1, hce.1.later IntR.lasts hb, hce.2.later ValR.lasts hb⟩
end Go.Proofs.YthlkcppbljpooaaGreatDoor
/- What a cell takes. -/
namespace Go.Proofs.YthlkcppbljpooaaGreatDoor

theorem infoCell : (Tryz.prog.info? 38).map (fun i => (i.zero, i.size, i.bytes)) = some (some (.agg #[.slice none 0 0, .slice none 0 0]), 2, 48) := by kernel_rfl
end Go.Proofs.YthlkcppbljpooaaGreatDoor
