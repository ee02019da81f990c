/- A drawn region of reads and calls whose last steps are: a list of one element is built, appended to the second list of a box, and stored. -/
import Derived.Test.YthlkcppbljpooaaGreatDoorS13
namespace Go.Proofs.YthlkcppbljpooaaGreatDoor
open Go.RowKit

theorem upd_ne {dn : Nat → Bool} {i j : Nat} (h : j ≠ i) : upd dn i j = dn j := if_neg h
theorem upd_at {dn : Nat → Bool} {i : Nat} : upd dn i i = true := if_pos rfl
theorem updV_ne {vals : Nat → Value} {v : Value} {i j : Nat} (h : j ≠ i) : updV vals i v j = vals j := if_neg h
theorem updV_at {vals : Nat → Value} {v : Value} {i : Nat} : updV vals i v i = v := if_pos rfl
/-- values that are told ahead -/
def Told (VL : List (Option Value)) (dn : Nat → Bool) (vals : Nat → Value) : Prop := ∀ (j : Nat) (v : Value), VL[j]? = some (some v) → dn j = true → vals j = v
theorem Told.step {VL : List (Option Value)} {dn : Nat → Bool} {vals : Nat → Value} (h : Told VL dn vals) {i : Nat} {v : Value} (hv : VL[i]? = some (some v) ∨ VL[i]? = some none) : Told VL (upd dn i) (updV vals i v) := by
 intro j u hj hd
 by_cases e : j = i
 ·subst e
  rw [updV_at]
  rcases hv with hv | hv
  ·rw [hj] at hv
   injection hv with hv
   injection hv with hv
   exact hv.symm
  ·rw [hj] at hv
   injection hv with hv
   cases hv
 ·rw [updV_ne e]
  rw [upd_ne e] at hd
  exact h j u hj hd
structure ApJ (VL : List (Option Value)) (jb ja js n₀ g : Nat) (W0 : World) (v1 v2 : Value) (lo hi : List Int) (M : Int) (dn : Nat → Bool) (vals : Nat → Value) (w : World) : Prop where
 below : Below n₀ W0 w
 s0 : dn ja = false → dn js = false → BoxA n₀ g w v1 v2 v1 v2 lo hi
 s1 : dn ja = true → dn js = false → BoxA n₀ g w v1 v2 v1 (vals ja) lo (hi ++ [M])
 s2 : dn ja = true → dn js = true → BoxA n₀ g w v1 (vals ja) v1 (vals ja) lo (hi ++ [M])
 fb : dn jb = true → dn ja = false → ∃ b, vals jb = .slice (some ⟨b, 0, none⟩) 1 1 ∧ w.cell? ⟨b, 0, none⟩ = some (.int .i64 M)
 fa : dn ja = true → ∃ b cap, vals ja = .slice (some ⟨b, 0, none⟩) (hi.length + 1) cap
 fv : Told VL dn vals
section
variable {VL : List (Option Value)} {jb ja js n₀ g : Nat} {W0 : World} {v1 v2 : Value} {lo hi : List Int} {M : Int} {dn : Nat → Bool} {vals : Nat → Value} {w : World}
theorem ApJ.start (hb : Below n₀ W0 w) (h : BoxA n₀ g w v1 v2 v1 v2 lo hi) : ApJ VL jb ja js n₀ g W0 v1 v2 lo hi M (fun _ => false) (fun _ => undef) w :=
 ⟨hb, fun _ _ => h, fun h => Bool.noConfusion h, fun h => Bool.noConfusion h, fun h => Bool.noConfusion h, fun h => Bool.noConfusion h, fun _ _ _ h => Bool.noConfusion h⟩
theorem ApJ.build (h : ApJ VL jb ja js n₀ g W0 v1 v2 lo hi M dn vals w) (hba : ja ≠ jb) (hbs : js ≠ jb) (hv : VL[jb]? = some none) (hn : n₀ ≤ w.heap.size) :
  ApJ VL jb ja js n₀ g W0 v1 v2 lo hi M (upd dn jb) (updV vals jb (.slice (some ⟨w.heap.size, 0, none⟩) 1 1)) (w.alloc (.cells #[.int .i64 M] 3)) := by
 have hw : Below w.heap.size w (w.alloc (.cells #[.int .i64 M] 3)) := below_alloc _ _
 refine ⟨h.below.trans (hw.mono hn), ?_, ?_, ?_, ?_, ?_, h.fv.step (.inr hv)⟩
 ·rw [upd_ne hba, upd_ne hbs]; exact fun h1 h2 => (h.s0 h1 h2).later hw
 ·rw [upd_ne hba, upd_ne hbs, updV_ne hba]; exact fun h1 h2 => (h.s1 h1 h2).later hw
 ·rw [upd_ne hba, upd_ne hbs, updV_ne hba]; exact fun h1 h2 => (h.s2 h1 h2).later hw
 ·intro _ _
  exact ⟨_, updV_at, by rw [World.cell?_alloc_at _ _ _ _ rfl]; rfl⟩
 ·rw [upd_ne hba, updV_ne hba]; exact h.fa
theorem ApJ.append (h : ApJ VL jb ja js n₀ g W0 v1 v2 lo hi M dn vals w) (hsa : js ≠ ja) (hv : VL[ja]? = some none) (hn : n₀ ≤ w.heap.size) (hda : dn ja = false) (hds : dn js = false) {g1 cap : Nat} {w1 : World}
  (hown : w1.ownsRow n₀ 3 1 (.slice (some ⟨g1, 0, none⟩) (hi.length + 1) cap) (hi.length + 1) (hi.map (Value.int .i64) ++ [.int .i64 M])) (hg : w.grownBy w1 v2.ownBlock) (hat : v2.ownBlock = some g1 ∨ g1 = w.heap.size) :
  ApJ VL jb ja js n₀ g W0 v1 v2 lo hi M (upd dn ja) (updV vals ja (.slice (some ⟨g1, 0, none⟩) (hi.length + 1) cap)) w1 := by
 have hS := h.s0 hda hds
 refine ⟨h.below.grown hg hn (fun k e => (hS.own2.lt k e).1), ?_, ?_, ?_, ?_, ?_, h.fv.step (.inr hv)⟩
 ·rw [upd_at]; exact fun h => Bool.noConfusion h
 ·rw [updV_at]; exact fun _ _ => hS.app2 (by decide) hown hg hat
 ·rw [upd_ne hsa, hds]; exact fun _ h => Bool.noConfusion h
 ·rw [upd_at]; exact fun _ h => Bool.noConfusion h
 ·intro _; rw [updV_at]; exact ⟨_, _, rfl⟩
theorem ApJ.store (h : ApJ VL jb ja js n₀ g W0 v1 v2 lo hi M dn vals w) (has : ja ≠ js) (hv : VL[js]? = some none) (hg : n₀ ≤ g) (hda : dn ja = true) (hds : dn js = false) {u : Value} (hu : vals ja = u) {v : Value} :
  ApJ VL jb ja js n₀ g W0 v1 v2 lo hi M (upd dn js) (updV vals js v) (w.setCell ⟨g, 1, none⟩ u) := by
 subst hu
 have hS := (h.s1 hda hds).st2 (by decide)
 refine ⟨h.below.setCell (p := ⟨g, 1, none⟩) hg _, ?_, ?_, ?_, ?_, ?_, h.fv.step (.inr hv)⟩
 ·rw [upd_at]; exact fun _ h => Bool.noConfusion h
 ·rw [upd_at]; exact fun _ h => Bool.noConfusion h
 ·rw [updV_ne has]; exact fun _ _ => hS
 ·rw [upd_ne has, hda]; exact fun _ h => Bool.noConfusion h
 ·rw [upd_ne has, updV_ne has]; exact h.fa
end
end Go.Proofs.YthlkcppbljpooaaGreatDoor
