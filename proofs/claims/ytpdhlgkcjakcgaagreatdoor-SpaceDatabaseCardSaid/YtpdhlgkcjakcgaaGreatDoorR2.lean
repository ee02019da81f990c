/- Lemmas and contracts, each under its own condition: Contracts: Add, Sub, Sign, Cmp, Whole, Bits, Floor. Contract: Floor. Plain laws of the rational numbers: their sizes, their order, the integer below. No program in sight. -/
import Derived.Test.YtpdhlgkcjakcgaaGreatDoorR1
/- Contracts: Add, Sub, Sign, Cmp, Whole, Bits, Floor. -/
namespace Go.Proofs.YtpdhlgkcjakcgaaGreatDoor
open Go.RowKit

/-- -1, 0 or 1 -/
def sgnQ (q : Rat) : Int := if qnum q = 0 then 0 else if qneg q then -1 else 1

/-- a value, and nothing old has changed -/
def RetV (v : Value) (w : World) (e : Ending) (w' : World) : Prop := e = .returned v ∧ Below w.heap.size w w'

end Go.Proofs.YtpdhlgkcjakcgaaGreatDoor
/- Contract: Floor. -/
namespace Go.Proofs.YtpdhlgkcjakcgaaGreatDoor
open Go.RowKit

/-- the numerator, without its sign, of the integer below q -/
def flN (q : Rat) : Nat := qnum q / q.den + (if qneg q = true ∧ qnum q % q.den ≠ 0 then 1 else 0)
/-- the integer below q -/
def flQ (q : Rat) : Rat := mkRat (sgn (qneg q) (flN q)) 1
theorem flQ_parts (q : Rat) : qnum (flQ q) = flN q ∧ (flQ q).den = 1 ∧ qneg (flQ q) = qneg q := by
  refine ⟨?_, ?_, ?_⟩
  · unfold flQ; rw [qnum, mk_num _ _ _ (by decide)]; simp
  · unfold flQ; rw [mk_den _ _ _ (by decide)]; simp
  · unfold flQ; rw [qneg, mk_neg _ _ _ (by decide)]
    rcases h : qneg q with _ | _
    · rfl
    · have h1 : qnum q ≠ 0 := by intro e; rw [q_neg_zero e] at h; exact absurd h (by decide)
      have h2 : flN q ≠ 0 := by
        unfold flN
        by_cases h3 : qnum q % q.den = 0
        · intro e
          have h4 : qnum q / q.den = 0 := (Nat.add_eq_zero_iff.1 e).1
          have := Nat.div_add_mod (qnum q) q.den
          rw [h3, h4] at this; simp at this; omega
        · rw [if_pos ⟨h, h3⟩]; exact Nat.succ_ne_zero _
      simp [h2]

theorem IsR.made' {w : World} {g : Nat} {b : Bool} {vn vd : Value} {q : Rat} {t : TypeId} (hg : g = w.heap.size) (hb : b = qneg q) (hn : IsN B32 w vn (qnum q)) (hd : IsN B32 w vd q.den) :
    IsR (w.alloc (.cells #[.bool b, vn, vd] t)) (.pointer (some ⟨g, 0, none⟩)) q := by
  subst hg; exact IsR.made hb hn hd

/-- a new slice that holds one 1 -/
theorem oneSl (w : World) (t : TypeId) : IsN B32 (w.alloc (.cells #[.int .u32 1] t)) (.slice (some ⟨w.heap.size, 0, none⟩) 1 1) 1 :=
  ⟨1, fun _ => 1, ⟨fun i hi => by unfold B32; omega, fun _ => by omega, by simp [fval]⟩, .inr ⟨_, 1, rfl, Nat.le_refl _, by omega, fun i hi => by
    obtain rfl : i = 0 := by omega
    rw [World.cell?_alloc_at _ _ _ _ rfl]; rfl⟩⟩

end Go.Proofs.YtpdhlgkcjakcgaaGreatDoor
/- Plain laws of the rational numbers: their sizes, their order, the integer below. No program in sight. -/
namespace Go.Proofs.YtpdhlgkcjakcgaaGreatDoor
open Go.RowKit

/-! ### sizes -/
structure Bd (k : Nat) (q : Rat) : Prop where
  num : qnum q < 2 ^ k
  den : q.den < 2 ^ k
theorem mul_lt_pow {x y a b : Nat} (hx : x < 2 ^ a) (hy : y < 2 ^ b) : x * y < 2 ^ (a + b) := by
  rw [Nat.pow_add]; exact Nat.mul_lt_mul'' hx hy
theorem Bd.mono {a b : Nat} {q : Rat} (h : Bd a q) (hab : a ≤ b) : Bd b q :=
  ⟨Nat.lt_of_lt_of_le h.num (Nat.pow_le_pow_right (by decide) hab), Nat.lt_of_lt_of_le h.den (Nat.pow_le_pow_right (by decide) hab)⟩
theorem Bd.smR {k : Nat} {q : Rat} (h : Bd k q) (hk : k ≤ 32000000) : SmR q := ⟨Sm.of_bits h.num hk, Sm.of_bits h.den hk⟩
theorem two_lt {a b k : Nat} (ha : a < 2 ^ k) (hb : b < 2 ^ k) : a + b < 2 ^ (k + 1) := by
  have e : 2 ^ (k + 1) = 2 * 2 ^ k := by rw [Nat.pow_succ, Nat.mul_comm]
  rw [e]; omega
theorem Bd.smM {a b : Nat} {p q : Rat} (hp : Bd a p) (hq : Bd b q) (h : a + b + 1 ≤ 32000000) : SmM p q := by
  have h1 := mul_lt_pow hp.num hq.num
  have h2 := mul_lt_pow hp.den hq.den
  have h3 := mul_lt_pow hp.num hq.den
  have h4 := mul_lt_pow hq.num hp.den
  rw [Nat.add_comm b a] at h4
  exact ⟨Sm.of_bits h1 (by omega), Sm.of_bits h2 (by omega), Sm.of_bits h3 (by omega), Sm.of_bits h4 (by omega), Sm.of_bits (two_lt h3 h4) h⟩
theorem Bd.made {k n d : Nat} (neg : Bool) (hn : n < 2 ^ k) (hd : d < 2 ^ k) (h0 : d ≠ 0) : Bd k (mkRat (sgn neg n) d) :=
  ⟨by unfold qnum; rw [mk_num _ _ _ h0]; exact Nat.lt_of_le_of_lt (Nat.div_le_self _ _) hn,
    by rw [mk_den _ _ _ h0]; exact Nat.lt_of_le_of_lt (Nat.div_le_self _ _) hd⟩
theorem Bd.mul {a b : Nat} {p q : Rat} (hp : Bd a p) (hq : Bd b q) : Bd (a + b) (p * q) := by
  rw [q_mul]
  exact Bd.made _ (mul_lt_pow hp.num hq.num) (mul_lt_pow hp.den hq.den) (Nat.mul_ne_zero p.den_nz q.den_nz)
theorem Bd.quo {a b : Nat} {p q : Rat} (hp : Bd a p) (hq : Bd b q) (h0 : q ≠ 0) : Bd (a + b) (p / q) := by
  rw [q_quo _ _ h0]
  exact Bd.made _ (mul_lt_pow hp.num hq.den) (mul_lt_pow hp.den hq.num) (Nat.mul_ne_zero p.den_nz (fun h => h0 ((q_zero_iff q).1 h)))
theorem Bd.added {a b : Nat} {p q : Rat} (minus : Bool) (hp : Bd a p) (hq : Bd b q) : Bd (a + b + 1) (if minus then p - q else p + q) := by
  rw [q_added]
  have h1 := mul_lt_pow hp.num hq.den
  have h2 := mul_lt_pow hq.num hp.den
  have h3 := mul_lt_pow hp.den hq.den
  rw [Nat.add_comm b a] at h2
  have h0 : p.den * q.den ≠ 0 := Nat.mul_ne_zero p.den_nz q.den_nz
  have e : 2 ^ (a + b + 1) = 2 * 2 ^ (a + b) := by rw [Nat.pow_succ, Nat.mul_comm]
  split
  · exact Bd.made _ (by rw [e]; omega) (by rw [e]; omega) h0
  split
  · exact Bd.made _ (by rw [e]; omega) (by rw [e]; omega) h0
  · exact Bd.made _ (by rw [e]; omega) (by rw [e]; omega) h0
theorem Bd.add {a b : Nat} {p q : Rat} (hp : Bd a p) (hq : Bd b q) : Bd (a + b + 1) (p + q) := by simpa using Bd.added false hp hq
theorem Bd.sub {a b : Nat} {p q : Rat} (hp : Bd a p) (hq : Bd b q) : Bd (a + b + 1) (p - q) := by simpa using Bd.added true hp hq
theorem Bd.i64 {n d : Int} (h1 : -9223372036854775808 ≤ n) (h2 : n ≤ 9223372036854775807) (h3 : -9223372036854775808 ≤ d) (h4 : d ≤ 9223372036854775807) (h0 : d ≠ 0) : Bd 64 (quoQ n d) :=
  Bd.made _ (by omega) (by omega) (by omega)
theorem Bd.floor {k : Nat} {q : Rat} (h : Bd k q) : Bd (k + 1) (flQ q) := by
  obtain ⟨h1, h2, _⟩ := flQ_parts q
  have h3 := h.num
  have e : 2 ^ (k + 1) = 2 * 2 ^ k := by rw [Nat.pow_succ, Nat.mul_comm]
  have h4 : flN q ≤ qnum q + 1 := by
    unfold flN
    have := Nat.div_le_self (qnum q) q.den
    split <;> omega
  refine ⟨by rw [h1, e]; omega, by rw [h2, e]; omega⟩
theorem Bd.one : Bd 1 1 := ⟨by decide, by decide⟩
theorem Bd.zero : Bd 1 0 := ⟨by decide, by decide⟩

/-! ### the order -/
theorem sgnQ_sign (q : Rat) : sgnQ q = q.num.sign := by
  unfold sgnQ qnum qneg
  rcases Int.lt_trichotomy q.num 0 with h | h | h
  · rw [if_neg (by omega), if_pos (by simpa using h), Int.sign_eq_neg_one_of_neg h]
  · rw [if_pos (by omega), h]; rfl
  · have h1 : decide (q.num < 0) = false := by rw [decide_eq_false_iff_not]; omega
    rw [if_neg (by omega), h1, if_neg (by decide), Int.sign_eq_one_of_pos h]
theorem sgnQ_neg (q : Rat) : sgnQ (-q) = - sgnQ q := by rw [sgnQ_sign, sgnQ_sign, Rat.neg_num, Int.sign_neg]
theorem sgnQ_swap (p q : Rat) : sgnQ (q - p) = - sgnQ (p - q) := by rw [← sgnQ_neg, Rat.neg_sub]
theorem sgnQ_range (q : Rat) : sgnQ q = -1 ∨ sgnQ q = 0 ∨ sgnQ q = 1 := by
  unfold sgnQ; split
  · exact .inr (.inl rfl)
  split
  · exact .inl rfl
  · exact .inr (.inr rfl)
theorem sgnQ_le0 (q : Rat) : sgnQ q ≤ 0 ↔ 0 ≤ -q := by
  rw [← Rat.num_nonneg, Rat.neg_num, sgnQ_sign]
  rcases Int.lt_trichotomy q.num 0 with h | h | h
  · rw [Int.sign_eq_neg_one_of_neg h]; omega
  · rw [h]; decide
  · rw [Int.sign_eq_one_of_pos h]; omega
theorem sgnQ_le (p q : Rat) : sgnQ (p - q) ≤ 0 ↔ p ≤ q := by rw [sgnQ_le0, Rat.neg_sub, ← Rat.le_iff_sub_nonneg]
theorem sgnQ_pos (p q : Rat) : 0 < sgnQ (p - q) ↔ q < p := by rw [← Rat.not_le, ← sgnQ_le]; omega
theorem sgnQ_zero (q : Rat) : sgnQ q = 0 ↔ q = 0 := by
  rw [← Rat.num_eq_zero, sgnQ_sign, Int.sign_eq_zero_iff_zero]
theorem sgnQ_eq (p q : Rat) : sgnQ (p - q) = 0 ↔ p = q := by
  rw [sgnQ_zero]
  constructor
  · intro h
    have := Rat.sub_add_cancel (a := p) (b := q)
    rw [h, Rat.zero_add] at this; exact this.symm
  · rintro rfl; exact Rat.sub_self
theorem sgnQ_trans {x y z : Rat} (h1 : sgnQ (x - y) ≤ 0) (h2 : sgnQ (y - z) ≤ 0) : sgnQ (x - z) ≤ 0 := by
  rw [sgnQ_le] at *; exact Rat.le_trans h1 h2

/-! ### the integer below -/
theorem flN_floor (q : Rat) : sgn (qneg q) (flN q) = q.floor := by
  rw [Rat.floor_def, q_num q]
  have hd := q.den_pos
  unfold flN
  generalize qnum q = m at *
  generalize q.den = d at *
  have hm := Nat.div_add_mod m d
  have hr := Nat.mod_lt m hd
  generalize m / d = k at *
  generalize hrr : m % d = r at *
  have hmi : (m : Int) = (d : Int) * (k : Int) + (r : Int) := by exact_mod_cast hm.symm
  unfold sgn
  cases qneg q
  · simp only [Bool.false_eq_true, if_false, false_and, Nat.add_zero]
    have := (Int.ediv_emod_unique (a := (m : Int)) (b := (d : Int)) (r := (r : Int)) (q := (k : Int)) (by omega)).2 ⟨by omega, by omega, by omega⟩
    exact this.1.symm
  · simp only [if_true, true_and]
    by_cases h0 : r = 0
    · subst h0
      have := (Int.ediv_emod_unique (a := -(m : Int)) (b := (d : Int)) (r := 0) (q := -(k : Int)) (by omega)).2 ⟨by rw [Int.mul_neg]; omega, by omega, by omega⟩
      simp only [ne_eq, not_true_eq_false, if_false, Nat.add_zero]
      exact this.1.symm
    · have := (Int.ediv_emod_unique (a := -(m : Int)) (b := (d : Int)) (r := (d : Int) - r) (q := -((k : Int) + 1)) (by omega)).2 ⟨by rw [Int.mul_neg, Int.mul_add, Int.mul_one]; omega, by omega, by omega⟩
      rw [if_pos h0, Int.natCast_add]
      exact this.1.symm
theorem flQ_floor (q : Rat) : flQ q = ((q.floor : Int) : Rat) := by
  obtain ⟨h1, h2, h3⟩ := flQ_parts q
  apply Rat.ext
  · rw [Rat.num_intCast, q_num (flQ q), h1, h3]
    exact flN_floor q
  · rw [h2, Rat.den_intCast]
theorem flQ_le (q : Rat) : flQ q ≤ q := by rw [flQ_floor]; exact Rat.floor_le q
theorem flQ_gt (q : Rat) : q - 1 < flQ q := by
  rw [flQ_floor, Rat.sub_lt_iff]
  have := Rat.lt_floor_add_one q
  rwa [Rat.intCast_add] at this
theorem flQ_whole (q : Rat) : q.den = 1 ↔ flQ q = q := by
  constructor
  · intro h
    have e : q = ((q.num : Int) : Rat) := Rat.ext rfl (by rw [h]; rfl)
    rw [flQ_floor, e, Rat.floor_intCast]
  · intro h; rw [← h]; exact (flQ_parts q).2.1
end Go.Proofs.YtpdhlgkcjakcgaaGreatDoor
