/- Copies of lists of dimensions, attributes and values: append([]T{}, l...). -/
import Derived.Deep.AppendLies
import Derived.Test.YtkliekoheeeamaaGreatDoorS9
namespace Go.Proofs.YtkliekoheeeamaaGreatDoor
open Go.RowKit

/-- readings that are lists of k cells -/
structure Cellw {α : Type} (k : Nat) (f : α → List Value) (Rd : World → Nat → Nat → α → Prop) : Prop where
 pos : 0 < k
 len : ∀ x, (f x).length = k
 one : ∀ x, ∀ u ∈ f x, u.oneCell' = true
 rd : ∀ w g o x, Rd w g o x → ∀ t u, (f x)[t]? = some u → w.cell? ⟨g, o + t, none⟩ = some u
 mkR : ∀ w g o x, (∀ t u, (f x)[t]? = some u → w.cell? ⟨g, o + t, none⟩ = some u) → Rd w g o x
theorem flat_len {α : Type} {k : Nat} {f : α → List Value} (h : ∀ x, (f x).length = k) (l : List α) : (l.flatMap f).length = l.length * k := by
 induction l with
 | nil => simp
 | cons x l ih => rw [List.flatMap_cons, List.length_append, ih, h, List.length_cons, Nat.add_mul]; omega
theorem flat_get {α : Type} {k : Nat} {f : α → List Value} (h : ∀ x, (f x).length = k) : ∀ (l : List α) (j : Nat) (u : Value), (l.flatMap f)[j]? = some u → ∃ i x t, l[i]? = some x ∧ (f x)[t]? = some u ∧ j = i * k + t
 | [], j, u, hj => by simp at hj
 | x :: l, j, u, hj => by
  rw [List.flatMap_cons] at hj
  by_cases hlt : j < k
  ·rw [List.getElem?_append_left (by rw [h]; exact hlt)] at hj
   exact ⟨0, x, j, rfl, hj, by omega⟩
  ·rw [List.getElem?_append_right (by rw [h]; omega), h] at hj
   obtain ⟨i, y, t, h1, h2, h3⟩ := flat_get h l (j - k) u hj
   exact ⟨i + 1, y, t, by simpa using h1, h2, by rw [Nat.add_mul]; omega⟩
theorem flat_at {α : Type} {k : Nat} {f : α → List Value} (h : ∀ x, (f x).length = k) : ∀ (l : List α) (i : Nat) (x : α) (t : Nat) (u : Value), l[i]? = some x → (f x)[t]? = some u → (l.flatMap f)[i * k + t]? = some u
 | [], i, x, t, u, h1, _ => by simp at h1
 | y :: l, 0, x, t, u, h1, h2 => by
  simp at h1
  subst h1
  have ht : t < k := by rw [← h y]; exact (List.getElem?_eq_some_iff.1 h2).1
  rw [List.flatMap_cons, Nat.zero_mul, Nat.zero_add, List.getElem?_append_left (by rw [h]; exact ht)]
  exact h2
 | y :: l, i + 1, x, t, u, h1, h2 => by
  rw [List.flatMap_cons, List.getElem?_append_right (by rw [h, Nat.add_mul]; omega), h, show (i + 1) * k + t - k = i * k + t from by rw [Nat.add_mul]; omega]
  exact flat_at h l i x t u (by simpa using h1) h2
/-- a list that lies, as cells -/
theorem Ls.cells {α : Type} {k : Nat} {f : α → List Value} {Rd : World → Nat → Nat → α → Prop} (hc : Cellw k f Rd) {w : World} {g o n cap : Nat} {l : List α} (h : Ls k Rd w (.slice (some ⟨g, o, none⟩) n cap) l) :
  ∀ j u, (l.flatMap f)[j]? = some u → w.cell? ((⟨g, o, none⟩ : Addr).add j) = some u := by
 intro j u hj
 obtain ⟨i, x, t, h1, h2, rfl⟩ := flat_get hc.len l j u hj
 obtain ⟨g', o', y, e, hy, hr⟩ := h.at i (List.getElem?_eq_some_iff.1 h1).1
 rw [h1] at hy
 cases hy
 cases e
 have := hc.rd _ _ _ _ hr t u h2
 rw [show (⟨g, o, none⟩ : Addr).add (i * k + t) = ⟨g, o + (i * k + t), none⟩ from by unfold Addr.add; split <;> simp_all, ← Nat.add_assoc]
 exact this
end Go.Proofs.YtkliekoheeeamaaGreatDoor
