/- The reference's rational numbers, contracts: Neg, Sub, Cmp. -/
import Derived.Test.YtpdhlgkcjakcgaaGreatDoorRefN
namespace Go.Proofs.YtpdhlgkcjakcgaaGreatDoor
open Go.RowKit

theorem neg_num (q : Rat) : qnum (-q) = qnum q := by unfold qnum; rw [Rat.neg_num, Int.natAbs_neg]
theorem neg_den (q : Rat) : (-q).den = q.den := Rat.neg_den q
theorem neg_neg' (q : Rat) : qneg (-q) = (!qneg q && decide (qnum q ≠ 0)) := by
  unfold qneg qnum
  rw [Rat.neg_num, Bool.eq_iff_iff]
  simp only [decide_eq_true_eq, Bool.and_eq_true, Bool.not_eq_true', decide_eq_false_iff_not]
  omega
theorem Bd.neg {k : Nat} {q : Rat} (h : Bd k q) : Bd k (-q) := ⟨by rw [neg_num]; exact h.num, by rw [neg_den]; exact h.den⟩

end Go.Proofs.YtpdhlgkcjakcgaaGreatDoor
