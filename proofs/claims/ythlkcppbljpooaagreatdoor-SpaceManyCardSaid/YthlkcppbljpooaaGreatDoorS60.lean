/- Lemmas and contracts, each under its own condition: Fronts and ends of lists as they lie in memory. What a cell takes. -/
import Derived.Test.YthlkcppbljpooaaGreatDoorS2
/- Fronts and ends of lists as they lie in memory. -/
namespace Go.Proofs.YthlkcppbljpooaaGreatDoor
open Go.RowKit

theorem two_at (w : World) (u1 u2 : Value) (t : TypeId) : ∀ j u, [u1, u2][j]? = some u → (w.alloc (.cells #[u1, u2] t)).cell? ((⟨w.heap.size, 0, none⟩ : Addr).add j) = some u := fun j u h => by
 have e : ((⟨w.heap.size, 0, none⟩ : Addr).add j) = ⟨w.heap.size, j, none⟩ := by unfold Addr.add; split <;> simp_all
 rw [e, World.cell?_alloc_at _ _ _ _ rfl]
 simpa using h
/-- what is left behind the first elements -/
theorem Ls.behind {α : Type} {k : Nat} {Rd : World → Nat → Nat → α → Prop} {w : World} {g o n cap m : Nat} {l : List α} (h : Ls k Rd w (.slice (some ⟨g, o, none⟩) n cap) l) (hm : m ≤ l.length) : Ls k Rd w (.slice (some ⟨g, o + m * k, none⟩) (l.length - m) (cap - m)) (l.drop m) := by
 obtain ⟨a, cap', e, h1, h2, h3⟩ := h
 injection e with e1 e2 e3
 subst e1 e2 e3
 refine ⟨_, _, by rw [List.length_drop], by rw [List.length_drop]; omega, by omega, fun h0 => ?_⟩
 rw [List.length_drop] at h0
 obtain ⟨g', o', e, hx⟩ := h3 (by omega)
 injection e with e
 injection e with e1 e2
 subst e1 e2
 refine ⟨_, _, rfl, fun i x hi => ?_⟩
 rw [List.getElem?_drop] at hi
 have := hx _ x hi
 rw [Nat.add_mul, ← Nat.add_assoc] at this
 exact this
end Go.Proofs.YthlkcppbljpooaaGreatDoor
/- What a cell takes. -/
namespace Go.Proofs.YthlkcppbljpooaaGreatDoor

theorem infoCell : (Tryz.prog.info? 38).map (fun i => (i.zero, i.size, i.bytes)) = some (some (.agg #[.slice none 0 0, .slice none 0 0]), 2, 48) := by kernel_rfl
end Go.Proofs.YthlkcppbljpooaaGreatDoor
