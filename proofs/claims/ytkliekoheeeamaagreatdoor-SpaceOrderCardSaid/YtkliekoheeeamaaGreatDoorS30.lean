/- append(out, append([]int{a}, row...)) in one drawn region: what is known while it runs. -/
import Derived.Deep.Upon
import Derived.Test.YtkliekoheeeamaaGreatDoorS28
import Derived.Test.YtkliekoheeeamaaGreatDoorS8
import Derived.Test.YtkliekoheeeamaaGreatDoorS9
namespace Go.Proofs.YtkliekoheeeamaaGreatDoor
open Go.RowKit

theorem own_one {base : Nat} (w : World) (T : TypeId) (u : Value) (hb : base ≤ w.heap.size) : (w.alloc (.cells #[u] T)).ownsRow base T 1 (.slice (some ⟨w.heap.size, 0, none⟩) 1 1) 1 [u] :=
 ⟨by simp, .inr ⟨w.heap.size, 1, #[u], rfl, hb, World.alloc_heap_new w _, Nat.le_refl _, by decide, by simp, by simp⟩⟩
/-- integers behind integers -/
theorem append_ints (w : World) (base : Nat) (hb : base ≤ w.heap.size) (v : Value) (l : List Int) (hown : w.ownsRow base 3 1 v l.length (l.map (Value.int .i64))) (u : Value) (l2 : List Int) (hu : Ints w u l2) (hlen : l.length + l2.length ≤ 1000000) (ty : TypeId) :
  ∃ v' w', (Builtin.append_ #[24, 24] ty #[v, u]).run Tryz.prog w = .ok v' w' ∧ w'.ownsRow base 3 1 v' (l.length + l2.length) ((l ++ l2).map (Value.int .i64)) ∧ w.grownBy w' v.ownBlock := by
 obtain ⟨i0, hi0, hz0, hz1, hz2⟩ := info_parts infoZ
 obtain ⟨a, cap, rfl, hlc, hcm, hx0⟩ := hu
 rcases Nat.eq_zero_or_pos l2.length with h0 | h0
 ·obtain rfl : l2 = [] := List.length_eq_zero_iff.1 h0
  refine ⟨v, w, ?_, by simpa using hown, ⟨rfl, rfl, rfl, Nat.le_refl _, fun _ _ _ => rfl⟩⟩
  have hs : Src Tryz.prog i0.size 24 (.slice a 0 cap) 0 [] w := ⟨.inl ⟨_, Tryz.underlying24⟩, fun w' => rfl, by cases a <;> simp [Builtin.firstCells, loadCells, loadCellsFrom], by cases a <;> simp [Builtin.firstCells, loadCells, loadCellsFrom], by simp, fun u hu => by cases hu⟩
  rcases hown.2 with ⟨rfl, h9⟩ | ⟨g, c9, cur, rfl, k1, k2, k3, -⟩
  ·exact run_append_nothing w _ _ _ _ i0 Tryz.underlying24 hi0 none 0 0 (Nat.le_refl _) _ hs
  ·exact run_append_nothing w _ _ _ _ i0 Tryz.underlying24 hi0 _ _ _ k3 _ hs
 ·obtain ⟨g, o, rfl, hx⟩ := hx0 h0
  obtain ⟨g1, cp1, w', hrun, hn, hgr, -, -⟩ := run_append_lies (P := Tryz.prog) w 24 ty base 3 i0 (.int .i64 0) 1 8 Tryz.underlying24 hi0 hz0 hz1 hz2 rfl (by decide) v l.length _ hown ⟨g, o, none⟩ l2.length cap (l2.map (Value.int .i64)) (by simp) (fun j u hj => by
   rw [List.getElem?_map] at hj
   cases hj2 : l2[j]? with
   | none => rw [hj2] at hj; cases hj
   | some x =>
    rw [hj2] at hj
    have hj := Option.some.inj hj
    subst hj
    have := hx j x hj2
    rw [Nat.mul_one] at this
    rw [show (⟨g, o, none⟩ : Addr).add j = ⟨g, o + j, none⟩ from by unfold Addr.add; split <;> simp_all]
    exact this) (fun u hu => by
   obtain ⟨x, -, rfl⟩ := List.mem_map.1 hu
   rfl) h0 (by unfold maxLen; omega) (by omega) hb _ rfl
  exact ⟨_, w', hrun, by rw [List.map_append]; exact hn, hgr⟩
structure ArJ (VL : List (Option Value)) (n1 : Nat) (W : World) (v : Value) (rows : List (List Int)) (A : Int) (row : List Int) (dn : Nat → Bool) (vals : Nat → Value) (w : World) : Prop where
 gr : W.grownBy w v.ownBlock
 s0 : dn 14 = false → Below W.heap.size W w
 b7 : dn 7 = true → dn 12 = false → w.ownsRow W.heap.size 3 1 (vals 7) 1 [.int .i64 A]
 b12 : dn 12 = true → dn 14 = false → IntsO w (vals 12) (A :: row)
 b13 : dn 13 = true → dn 14 = false → ∃ b, vals 13 = .slice (some ⟨b, 0, none⟩) 1 1 ∧ w.cell? ⟨b, 0, none⟩ = some (vals 12)
 b14 : dn 14 = true → RowsO n1 w (vals 14) (rows ++ [A :: row])
 b15 : dn 15 = true → vals 15 = vals 14
 fv : Told VL dn vals
section
variable {VL : List (Option Value)} {n1 : Nat} {W : World} {v : Value} {rows : List (List Int)} {A : Int} {row : List Int} {dn : Nat → Bool} {vals : Nat → Value} {w : World}
theorem ArJ.start : ArJ VL n1 W v rows A row (fun _ => false) (fun _ => undef) { W with drawn := W.drawn + 1 } :=
 ⟨grown_of_below (Below.refl _ _).drew _, fun _ => (Below.refl _ _).drew, fun h => Bool.noConfusion h, fun h => Bool.noConfusion h, fun h => Bool.noConfusion h, fun h => Bool.noConfusion h, fun h => Bool.noConfusion h, fun _ _ _ h => Bool.noConfusion h⟩
theorem ArJ.read {i : Nat} {x : Value} (h : ArJ VL n1 W v rows A row dn vals w) (h7 : 7 ≠ i) (h12 : 12 ≠ i) (h13 : 13 ≠ i) (h14 : 14 ≠ i) (h15 : 15 ≠ i) (hv : VL[i]? = some (some x)) : ArJ VL n1 W v rows A row (upd dn i) (updV vals i x) w := by
 refine ⟨h.gr, ?_, ?_, ?_, ?_, ?_, ?_, h.fv.step (.inl hv)⟩
 ·rw [upd_ne h14]; exact h.s0
 ·rw [upd_ne h7, upd_ne h12, updV_ne h7]; exact h.b7
 ·rw [upd_ne h12, upd_ne h14, updV_ne h12]; exact h.b12
 ·rw [upd_ne h13, upd_ne h14, updV_ne h13, updV_ne h12]; exact h.b13
 ·rw [upd_ne h14, updV_ne h14]; exact h.b14
 ·rw [upd_ne h15, updV_ne h15, updV_ne h14]; exact h.b15
end
end Go.Proofs.YtkliekoheeeamaaGreatDoor
