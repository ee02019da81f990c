/- Lemmas and contracts, each under its own condition: The reference's rational numbers, contracts: Mul, Quo, Add, Neg, Sub, Cmp. The reference's rational numbers, contracts: Neg, Sub, Cmp. The reference's values, contracts: Check, Fits, Number. The reference's values, contracts: Check of any value, Number, Fits. -/
import Derived.Deep.QuietTactic
import Derived.Deep.RegionHeld3
import Derived.Test.YthlkcppbljpooaaGreatDoorG1
import Derived.Test.YthlkcppbljpooaaGreatDoorV2
/- The reference's rational numbers, contracts: Mul, Quo, Add, Neg, Sub, Cmp. -/
namespace Go.Proofs.YthlkcppbljpooaaGreatDoor
open Go.RowKit

theorem Bx9.later {w w' : World} {g : Nat} {b : Bool} {vn vd : Value} {q : Rat} (h : Bx9 w g b vn vd q) (hb : Below w.heap.size w w') : Bx9 w' g b vn vd q :=
 have hg : g < w.heap.size := World.block_lt_of_cell? w ⟨g, 0, none⟩ h.neg
 ⟨(hb.cell (p := ⟨g, 0, none⟩) hg).trans h.neg, (hb.cell (p := ⟨g, 1, none⟩) hg).trans h.num, (hb.cell (p := ⟨g, 2, none⟩) hg).trans h.den, h.isNum.later hb, h.isDen.later hb⟩

end Go.Proofs.YthlkcppbljpooaaGreatDoor
/- The reference's rational numbers, contracts: Neg, Sub, Cmp. -/
namespace Go.Proofs.YthlkcppbljpooaaGreatDoor
open Go.RowKit

theorem neg_num (q : Rat) : qnum (-q) = qnum q := by unfold qnum; rw [Rat.neg_num, Int.natAbs_neg]
theorem neg_den (q : Rat) : (-q).den = q.den := Rat.neg_den q
theorem Bd.neg {k : Nat} {q : Rat} (h : Bd k q) : Bd k (-q) := ⟨by rw [neg_num]; exact h.num, by rw [neg_den]; exact h.den⟩

end Go.Proofs.YthlkcppbljpooaaGreatDoor
/- The reference's values, contracts: Check, Fits, Number. -/
namespace Go.Proofs.YthlkcppbljpooaaGreatDoor
open Go.RowKit

end Go.Proofs.YthlkcppbljpooaaGreatDoor
/- The reference's values, contracts: Check of any value, Number, Fits. -/
namespace Go.Proofs.YthlkcppbljpooaaGreatDoor
open Go.RowKit

end Go.Proofs.YthlkcppbljpooaaGreatDoor
