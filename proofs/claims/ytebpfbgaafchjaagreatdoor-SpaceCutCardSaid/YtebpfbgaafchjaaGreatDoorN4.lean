/- Lemmas and contracts, each under its own condition: bits.LeadingZeros32, bits.Len32, in the words of the proofs. Contract: div. Contract: div, the long way. Contracts: gcd, length. -/
import Derived.Deep.LoopGhost
import Derived.Test.YtebpfbgaafchjaaGreatDoorN1
import Derived.Test.YtebpfbgaafchjaaGreatDoorN3
import Derived.Test.YtebpfbgaafchjaaGreatDoorShlf
/- bits.LeadingZeros32, bits.Len32, in the words of the proofs. -/
namespace Go.Proofs.YtebpfbgaafchjaaGreatDoor
open Go.RowKit

end Go.Proofs.YtebpfbgaafchjaaGreatDoor
/- Contract: div. -/
namespace Go.Proofs.YtebpfbgaafchjaaGreatDoor
open Go.RowKit

end Go.Proofs.YtebpfbgaafchjaaGreatDoor
/- Contract: div, the long way. -/
namespace Go.Proofs.YtebpfbgaafchjaaGreatDoor
open Go.RowKit

/-- digit i of a row that is shifted to the right -/
def shrD (T : Nat → Nat) (s i : Nat) : Nat := T i / 2 ^ s + T (i + 1) % 2 ^ s * 2 ^ (32 - s)
/-- i digits have been shifted -/
structure ShrInv (w : World) (g1 g3 t s l : Nat) (T Q : Nat → Nat) (i : Nat) (wr : World) : Prop where
 arr : Arr wr g1 t (fun k => if k < i then shrD T s k else T k)
 q : Cells wr g3 l Q
 below : Below w.heap.size w wr

theorem ShrInv.put {w wr : World} {g1 g3 t s l i : Nat} {T Q : Nat → Nat} (h : ShrInv w g1 g3 t s l T Q i wr) (hi : i < t) (h13 : g1 ≠ g3) (hw : w.heap.size ≤ g1) {z : Value} (hz : z = .int .u32 (shrD T s i : Nat)) :
  ShrInv w g1 g3 t s l T Q (i + 1) (wr.setCell ⟨g1, i, none⟩ z) := by
 have h1 := h.arr.set i (shrD T s i) hi hz
 refine ⟨⟨fun k hk => ?_, h1.free⟩, fun k hk => ?_, h.below.setCell hw _⟩
 ·rw [h1.cell k hk]
  congr 3
  by_cases e : k = i
  ·subst e; rw [putD_same, if_pos (by omega)]
  ·rw [putD_other _ _ _ _ e]
   by_cases e2 : k < i
   ·rw [if_pos e2, if_pos (by omega)]
   ·rw [if_neg e2, if_neg (by omega)]
 ·rw [World.cell?_setCell_other wr ⟨g1, i, none⟩ ⟨g3, k, none⟩ _ (fun e => by injection e with e1; exact h13 e1)]
  exact h.q k hk
/-- the first of two stores to one cell -/
theorem ShrInv.pre {w wr : World} {g1 g3 t s l i : Nat} {T Q : Nat → Nat} (h : ShrInv w g1 g3 t s l T Q i wr) (hi : i < t) (h13 : g1 ≠ g3) (hw : w.heap.size ≤ g1) {z y : Value} (hz : z = .int .u32 (shrD T s i : Nat)) (x : Nat) (hy : y = .int .u32 (x : Int)) :
  ShrInv w g1 g3 t s l T Q (i + 1) ((wr.setCell ⟨g1, i, none⟩ y).setCell ⟨g1, i, none⟩ z) := by
 have h1 := (h.arr.set i x hi hy).set i (shrD T s i) hi hz
 refine ⟨⟨fun k hk => ?_, h1.free⟩, fun k hk => ?_, (h.below.setCell hw _).setCell hw _⟩
 ·rw [h1.cell k hk]
  congr 3
  by_cases e : k = i
  ·subst e; rw [putD_same, if_pos (by omega)]
  ·rw [putD_other _ _ _ _ e, putD_other _ _ _ _ e]
   by_cases e2 : k < i
   ·rw [if_pos e2, if_pos (by omega)]
   ·rw [if_neg e2, if_neg (by omega)]
 ·rw [World.cell?_setCell_other (wr.setCell ⟨g1, i, none⟩ y) ⟨g1, i, none⟩ ⟨g3, k, none⟩ _ (fun e => by injection e with e1; exact h13 e1),
   World.cell?_setCell_other wr ⟨g1, i, none⟩ ⟨g3, k, none⟩ _ (fun e => by injection e with e1; exact h13 e1)]
  exact h.q k hk
theorem ShrInv.drew {w wr : World} {g1 g3 t s l i : Nat} {T Q : Nat → Nat} (h : ShrInv w g1 g3 t s l T Q i wr) : ShrInv w g1 g3 t s l T Q i wr.drew :=
 ⟨h.arr.drew, h.q, h.below.drew⟩

end Go.Proofs.YtebpfbgaafchjaaGreatDoor
/- Contracts: gcd, length. -/
namespace Go.Proofs.YtebpfbgaafchjaaGreatDoor
open Go.RowKit

end Go.Proofs.YtebpfbgaafchjaaGreatDoor
