/- The reference's rational numbers, contracts: Mul, Quo, Add, Neg, Sub, Cmp. -/
import Derived.Test.YtpdhlgkcjakcgaaGreatDoorG2
namespace Go.Proofs.YtpdhlgkcjakcgaaGreatDoor
open Go.RowKit

abbrev set9 (w : World) (g : Nat) (z0 z1 z2 : Value) : World := ((w.setCell ⟨g, 0, none⟩ z0).setCell ⟨g, 1, none⟩ z1).setCell ⟨g, 2, none⟩ z2
theorem Bx9.later {w w' : World} {g : Nat} {b : Bool} {vn vd : Value} {q : Rat} (h : Bx9 w g b vn vd q) (hb : Below w.heap.size w w') : Bx9 w' g b vn vd q :=
  have hg : g < w.heap.size := World.block_lt_of_cell? w ⟨g, 0, none⟩ h.neg
  ⟨(hb.cell (p := ⟨g, 0, none⟩) hg).trans h.neg, (hb.cell (p := ⟨g, 1, none⟩) hg).trans h.num, (hb.cell (p := ⟨g, 2, none⟩) hg).trans h.den, h.isNum.later hb, h.isDen.later hb⟩

theorem Below.drewn (w : World) : Below w.heap.size w w.drew := (Below.refl _ _).drew
end Go.Proofs.YtpdhlgkcjakcgaaGreatDoor
