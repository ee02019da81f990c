/- Lemmas and contracts, each under its own condition: Contracts: Add, Sub, Sign, Cmp, Whole, Bits, Floor. Contract: Floor. Plain laws of the rational numbers: their sizes, their order, the integer below. No program in sight. -/
import Derived.Test.YtebpfbgaafchjaaGreatDoorR1
/- Contracts: Add, Sub, Sign, Cmp, Whole, Bits, Floor. -/
namespace Go.Proofs.YtebpfbgaafchjaaGreatDoor
open Go.RowKit

/-- a value, and nothing old has changed -/
def RetV (v : Value) (w : World) (e : Ending) (w' : World) : Prop := e = .returned v ∧ Below w.heap.size w w'

end Go.Proofs.YtebpfbgaafchjaaGreatDoor
/- Contract: Floor. -/
namespace Go.Proofs.YtebpfbgaafchjaaGreatDoor
open Go.RowKit

end Go.Proofs.YtebpfbgaafchjaaGreatDoor
/- Plain laws of the rational numbers: their sizes, their order, the integer below. No program in sight. -/
namespace Go.Proofs.YtebpfbgaafchjaaGreatDoor
open Go.RowKit

/-! ### sizes -/
structure Bd (k : Nat) (q : Rat) : Prop where
 num : qnum q < 2 ^ k
 den : q.den < 2 ^ k
theorem mul_lt_pow {x y a b : Nat} (hx : x < 2 ^ a) (hy : y < 2 ^ b) : x * y < 2 ^ (a + b) := by
 rw [Nat.pow_add]; exact Nat.mul_lt_mul'' hx hy
theorem Bd.mono {a b : Nat} {q : Rat} (h : Bd a q) (hab : a ≤ b) : Bd b q :=
 ⟨Nat.lt_of_lt_of_le h.num (Nat.pow_le_pow_right (by decide) hab), Nat.lt_of_lt_of_le h.den (Nat.pow_le_pow_right (by decide) hab)⟩
theorem Bd.smR {k : Nat} {q : Rat} (h : Bd k q) (hk : k ≤ 32000000) : SmR q := ⟨Sm.of_bits h.num hk, Sm.of_bits h.den hk⟩
theorem Bd.made {k n d : Nat} (neg : Bool) (hn : n < 2 ^ k) (hd : d < 2 ^ k) (h0 : d ≠ 0) : Bd k (mkRat (sgn neg n) d) :=
 ⟨by unfold qnum; rw [mk_num _ _ _ h0]; exact Nat.lt_of_le_of_lt (Nat.div_le_self _ _) hn,
  by rw [mk_den _ _ _ h0]; exact Nat.lt_of_le_of_lt (Nat.div_le_self _ _) hd⟩
theorem Bd.added {a b : Nat} {p q : Rat} (minus : Bool) (hp : Bd a p) (hq : Bd b q) : Bd (a + b + 1) (if minus then p - q else p + q) := by
 rw [q_added]
 have h1 := mul_lt_pow hp.num hq.den
 have h2 := mul_lt_pow hq.num hp.den
 have h3 := mul_lt_pow hp.den hq.den
 rw [Nat.add_comm b a] at h2
 have h0 : p.den * q.den ≠ 0 := Nat.mul_ne_zero p.den_nz q.den_nz
 have e : 2 ^ (a + b + 1) = 2 * 2 ^ (a + b) := by rw [Nat.pow_succ, Nat.mul_comm]
 split
 ·exact Bd.made _ (by rw [e]; omega) (by rw [e]; omega) h0
 split
 ·exact Bd.made _ (by rw [e]; omega) (by rw [e]; omega) h0
 ·exact Bd.made _ (by rw [e]; omega) (by rw [e]; omega) h0
theorem Bd.add {a b : Nat} {p q : Rat} (hp : Bd a p) (hq : Bd b q) : Bd (a + b + 1) (p + q) := by simpa using Bd.added false hp hq
theorem Bd.i64 {n d : Int} (h1 : -9223372036854775808 ≤ n) (h2 : n ≤ 9223372036854775807) (h3 : -9223372036854775808 ≤ d) (h4 : d ≤ 9223372036854775807) (h0 : d ≠ 0) : Bd 64 (quoQ n d) :=
 Bd.made _ (by omega) (by omega) (by omega)
theorem Bd.one : Bd 1 1 := ⟨by decide, by decide⟩
theorem Bd.zero : Bd 1 0 := ⟨by decide, by decide⟩

/-! ### the order -/
/-! ### the integer below -/
end Go.Proofs.YtebpfbgaafchjaaGreatDoor
