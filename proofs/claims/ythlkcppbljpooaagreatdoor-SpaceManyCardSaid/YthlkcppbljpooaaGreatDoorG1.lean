/- Lemmas and contracts, each under its own condition: The reference's natural numbers, contracts: trim, natural, digit, short, compare. The reference's natural numbers, contracts: plus, minus. The reference's natural numbers, contracts: times. The reference's natural numbers, contracts: compare, over. The reference's natural numbers, contracts: over (the long way), common, length. The reference's natural numbers, contracts: common, length. The reference's natural numbers, contract: decimal. The reference's rational numbers, contracts: reduced, size, Of. The reference's rational numbers, contracts: Text, Bits, Sign, Whole, Floor. The reference's rational numbers, contracts: Bits, Sign, Whole, Floor, word, Value. The reference's rational numbers, contracts: Floor, word, Missing, Truth, Value. The reference's rational numbers, contract: Value. -/
import Derived.Deep.RegionHeld3
import Derived.Deep.AppendLies
import Derived.Deep.Upon
import Derived.Laws.IdiomStrings
import Derived.Test.YthlkcppbljpooaaGreatDoorN2
import Derived.Test.YthlkcppbljpooaaGreatDoorN3
import Derived.Test.YthlkcppbljpooaaGreatDoorR1
import Derived.Test.YthlkcppbljpooaaGreatDoorT1
import Derived.Test.YthlkcppbljpooaaGreatDoorV2
/- The reference's natural numbers, contracts: trim, natural, digit, short, compare. -/
namespace Go.Proofs.YthlkcppbljpooaaGreatDoor
open Go.RowKit

/-- the cells of digits -/
def rowD (D : Nat → Nat) (n : Nat) : List Value := (List.range n).map fun i => .int .u32 (D i : Nat)
end Go.Proofs.YthlkcppbljpooaaGreatDoor
/- The reference's natural numbers, contracts: plus, minus. -/
namespace Go.Proofs.YthlkcppbljpooaaGreatDoor
open Go.RowKit

structure PlusInv (w : World) (m n : Nat) (D E : Nat → Nat) (k c : Nat) (O : Nat → Nat) (ov : Value) (wr : World) : Prop where
 own : wr.ownsRow w.heap.size 150 1 ov k (rowD O k)
 below : Below w.heap.size w wr
 dig : ∀ i, i < k → O i < B9
 carry : c ≤ 1
 len : k ≤ m + n + 1
 far : c = 0 ∨ k ≤ m ∨ k ≤ n
 eq : fval B9 O k + B9 ^ k * c = fval B9 (cutD D m) k + fval B9 (cutD E n) k

theorem PlusInv.step {w wr w' : World} {m n k c d e : Nat} {D E O : Nat → Nat} {ov ov' : Value} (h : PlusInv w m n D E k c O ov wr) (hgo : k < m ∨ k < n ∨ 0 < c) (hd : d = cutD D m k) (he : e = cutD E n k) (hx : d < B9) (hy : e < B9)
  (hown : w'.ownsRow w.heap.size 150 1 ov' (k + 1) (rowD (putD O k ((d + e + c) % 1000000000)) (k + 1))) (hb : Below w.heap.size w w') :
  PlusInv w m n D E (k + 1) ((d + e + c) / 1000000000) (putD O k ((d + e + c) % 1000000000)) ov' w' := by
 have hc := h.carry
 have hf := h.far
 unfold B9 at hx hy
 refine ⟨hown, hb, fun i hi => ?_, by omega, by omega, ?_, ?_⟩
 ·by_cases e : i = k
  ·subst e; rw [putD_same]; unfold B9; omega
  ·rw [putD_other _ _ _ _ e]; exact h.dig i (by omega)
 ·by_cases h1 : k < m
  ·omega
  ·by_cases h2 : k < n
   ·omega
   ·left
    rw [hd, he, cutD, cutD, if_neg h1, if_neg h2]; omega
 ·rw [fval_succ, fval_succ, fval_succ, putD_same, fval_congr (E := O) k (fun i hi => putD_other _ _ _ _ (by omega)), Nat.pow_succ, ← hd, ← he]
  exact add_step h.eq (Nat.mod_add_div _ _)

structure MinusInv (w : World) (m n : Nat) (D E : Nat → Nat) (k b : Nat) (O : Nat → Nat) (ov : Value) (wr : World) : Prop where
 own : wr.ownsRow w.heap.size 150 1 ov k (rowD O k)
 below : Below w.heap.size w wr
 dig : ∀ i, i < k → O i < B9
 borrow : b ≤ 1
 eq : fval B9 O k + fval B9 (cutD E n) k = fval B9 D k + B9 ^ k * b

theorem MinusInv.step {w wr w' : World} {m n k b d e : Nat} {D E O : Nat → Nat} {ov ov' : Value} (h : MinusInv w m n D E k b O ov wr) (hd : d = D k) (he : e = cutD E n k) (hx : d < B9) (hy : e < B9)
  (hown : w'.ownsRow w.heap.size 150 1 ov' (k + 1) (rowD (putD O k ((d + 1000000000 - e - b) % 1000000000)) (k + 1))) (hb : Below w.heap.size w w') :
  MinusInv w m n D E (k + 1) (1 - (d + 1000000000 - e - b) / 1000000000) (putD O k ((d + 1000000000 - e - b) % 1000000000)) ov' w' := by
 have hc := h.borrow
 unfold B9 at hx hy
 refine ⟨hown, hb, fun i hi => ?_, by omega, ?_⟩
 ·by_cases e : i = k
  ·subst e; rw [putD_same]; unfold B9; omega
  ·rw [putD_other _ _ _ _ e]; exact h.dig i (by omega)
 ·rw [fval_succ, fval_succ, fval_succ, putD_same, fval_congr (E := O) k (fun i hi => putD_other _ _ _ _ (by omega)), Nat.pow_succ, ← hd, ← he]
  exact sub_step h.eq (by unfold B9; omega)

end Go.Proofs.YthlkcppbljpooaaGreatDoor
/- The reference's natural numbers, contracts: times. -/
namespace Go.Proofs.YthlkcppbljpooaaGreatDoor
open Go.RowKit

/-- the product so far: i whole rows (P), k places of the next one -/
structure Mul9 (w : World) (N i n d P : Nat) (E : Nat → Nat) (k c : Nat) (O : Nat → Nat) (wr : World) : Prop where
 arr : Arr wr w.heap.size N O
 below : Below w.heap.size w wr
 dig : ∀ j, j < N → O j < B9
 zero : ∀ j, i + n ≤ j → i + k ≤ j → j < N → O j = 0
 carry : c < B9
 len : k ≤ n + 1
 far : k = n + 1 → c = 0
 eq : fval B9 O N + B9 ^ (i + k) * c = P + B9 ^ i * (d * fval B9 (cutD E n) k)

theorem Mul9.drew {w wr : World} {N i n d P k c : Nat} {E O : Nat → Nat} (h : Mul9 w N i n d P E k c O wr) : Mul9 w N i n d P E k c O wr.drew :=
 ⟨h.arr.drew, h.below.drew, h.dig, h.zero, h.carry, h.len, h.far, h.eq⟩

theorem mul9_bound {d e : Nat} (hd : d < 1000000000) (he : e < 1000000000) : d * e ≤ 999999998000000001 :=
 Nat.mul_le_mul (show d ≤ 999999999 by omega) (show e ≤ 999999999 by omega)

theorem Mul9.step {w wr : World} {N i n d P k c e o : Nat} {E O : Nat → Nat} (h : Mul9 w N i n d P E k c O wr) (hk : k ≤ n) (hN : i + n < N) (hd : d < 1000000000) (he : e = cutD E n k) (he9 : e < 1000000000) (ho : o = O (i + k)) {z : Value}
  (hz : z = .int .u32 (((o + d * e + c) % 1000000000 : Nat) : Int)) :
  Mul9 w N i n d P E (k + 1) ((o + d * e + c) / 1000000000) (putD O (i + k) ((o + d * e + c) % 1000000000)) (wr.setCell ⟨w.heap.size, i + k, none⟩ z) := by
 have ho9 := h.dig (i + k) (by omega)
 have hc := h.carry
 have hde := mul9_bound hd he9
 unfold B9 at ho9 hc
 rw [← ho] at ho9
 refine ⟨h.arr.set _ _ (by omega) hz, h.below.setCell (Nat.le_refl _) _, fun j hj => ?_, fun j h1 h2 h3 => ?_, by unfold B9; omega, by omega, fun hkn => ?_, ?_⟩
 ·by_cases e : j = i + k
  ·subst e; rw [putD_same]; unfold B9; omega
  ·rw [putD_other _ _ _ _ e]; exact h.dig j hj
 ·rw [putD_other _ _ _ _ (by omega)]; exact h.zero j h1 (by omega) h3
 ·obtain rfl : k = n := by omega
  have h1 : e = 0 := by rw [he]; simp [cutD]
  have h2 : o = 0 := by rw [ho]; exact h.zero _ (by omega) (by omega) (by omega)
  rw [h1, h2]; omega
 ·have h1 := fval_set (B := B9) O N (i + k) ((o + d * e + c) % 1000000000) (by omega)
  have h2 := h.eq
  rw [fval_succ, ← he]
  have h3 : (o + d * e + c) % 1000000000 + B9 * ((o + d * e + c) / 1000000000) = o + d * e + c := Nat.mod_add_div _ _
  generalize (o + d * e + c) % 1000000000 = r at *
  generalize (o + d * e + c) / 1000000000 = q at *
  have h4 : B9 ^ (i + k) * (r + B9 * q) = B9 ^ (i + k) * (o + d * e + c) := by rw [h3]
  have e1 : B9 ^ (i + (k + 1)) * q = B9 ^ (i + k) * (B9 * q) := by rw [← Nat.add_assoc, Nat.pow_succ, Nat.mul_assoc]
  have e2 : B9 ^ i * (d * (fval B9 (cutD E n) k + B9 ^ k * e)) = B9 ^ i * (d * fval B9 (cutD E n) k) + B9 ^ (i + k) * (d * e) := by
   rw [Nat.mul_add, Nat.mul_add, Nat.pow_add]
   congr 1
   rw [Nat.mul_assoc]
   congr 1
   rw [← Nat.mul_assoc, Nat.mul_comm d, Nat.mul_assoc]
  rw [e1, e2]
  simp only [Nat.mul_add] at h4
  change fval B9 (putD O (i + k) r) N + B9 ^ (i + k) * O (i + k) = fval B9 O N + B9 ^ (i + k) * r at h1
  rw [← ho] at h1
  omega

theorem Mul9.row {w wr : World} {N i n d X k : Nat} {E O : Nat → Nat} (h : Mul9 w N i n d (X * fval B9 E n) E k 0 O wr) (hk : n ≤ k) (D : Nat → Nat) (hX : fval B9 D i = X) (hd : D i = d) (d' : Nat) :
  Mul9 w N (i + 1) n d' (fval B9 D (i + 1) * fval B9 E n) E 0 0 O wr := by
 have hl := h.len
 refine ⟨h.arr, h.below, h.dig, fun j h1 h2 h3 => h.zero j (by omega) (by omega) h3, by decide, by omega, fun _ => rfl, ?_⟩
 have h2 := h.eq
 rw [cutD_val _ _ hk, Nat.mul_zero, Nat.add_zero] at h2
 rw [fval_succ, hX, hd, Nat.add_mul, fval_zero, Nat.mul_zero, Nat.mul_zero, Nat.mul_zero, Nat.add_zero, Nat.add_zero, h2, Nat.mul_assoc]

theorem Mul9.start (w : World) (N n d : Nat) (E : Nat → Nat) (t : TypeId) : Mul9 w N 0 n d (0 * fval B9 E n) E 0 0 (fun _ => 0) (w.alloc (.cells (madeCells #[.int .u32 0] N) t)) :=
 ⟨Arr.made _ _ _, below_alloc _ _, fun _ _ => by decide, fun _ _ _ _ => rfl, by decide, by omega, fun _ => rfl, by simp [fval_const_zero, fval_zero]⟩

end Go.Proofs.YthlkcppbljpooaaGreatDoor
/- The reference's natural numbers, contracts: compare, over. -/
namespace Go.Proofs.YthlkcppbljpooaaGreatDoor
open Go.RowKit

end Go.Proofs.YthlkcppbljpooaaGreatDoor
/- The reference's natural numbers, contracts: over (the long way), common, length. -/
namespace Go.Proofs.YthlkcppbljpooaaGreatDoor
open Go.RowKit

structure Over9 (w : World) (m : Nat) (D : Nat → Nat) (Y k R : Nat) (O : Nat → Nat) (rv : Value) (wr : World) : Prop where
 arr : Arr wr w.heap.size m O
 below : Below w.heap.size w wr
 dig : ∀ i, k ≤ i → i < m → O i < B9
 rest : IsN B9 wr rv R
 lt : R < Y
 eq : hi B9 D k m = hi B9 O k m * Y + R

/-- the digit of a quotient is looked for: the state -/
structure Half9 (Y R lo hi : Nat) : Prop where
 le : lo ≤ hi
 top : hi ≤ 999999999
 low : Y * lo ≤ R
 high : R < Y * (hi + 1)
theorem Half9.up {Y R lo hi : Nat} (h : Half9 Y R lo hi) (hlt : lo < hi) (hle : Y * ((lo + hi + 1) / 2) ≤ R) : Half9 Y R ((lo + hi + 1) / 2) hi :=
 ⟨by omega, h.top, hle, h.high⟩
theorem Half9.down {Y R lo hi : Nat} (h : Half9 Y R lo hi) (hlt : lo < hi) (hle : R < Y * ((lo + hi + 1) / 2)) : Half9 Y R lo ((lo + hi + 1) / 2 - 1) := by
 have h1 := h.top
 refine ⟨by omega, by omega, h.low, ?_⟩
 rw [show (lo + hi + 1) / 2 - 1 + 1 = (lo + hi + 1) / 2 from by omega]; exact hle
theorem Half9.start {x Y R : Nat} (hR : R < Y) (hx : x < B9) : Half9 Y (x + B9 * R) 0 999999999 := by
 refine ⟨by omega, by omega, by simp, ?_⟩
 have : B9 * (R + 1) ≤ B9 * Y := Nat.mul_le_mul_left _ hR
 rw [Nat.mul_comm Y]
 unfold B9 at *; omega
theorem Half9.done {Y R lo : Nat} (h : Half9 Y R lo lo) : R - Y * lo < Y := by
 have h1 := h.low
 have h2 := h.high
 rw [Nat.mul_add] at h2; omega

theorem Over9.step {w wr w' : World} {m Y k R lo x : Nat} {D O : Nat → Nat} {rv rv' : Value} (h : Over9 w m D Y (k + 1) R O rv wr) (hk : k < m) (hx : x = D k) (hf : Half9 Y (x + B9 * R) lo lo)
  (harr : Arr w' w.heap.size m (putD O k lo)) (hb : Below w.heap.size w w') (hr : IsN B9 w' rv' (x + B9 * R - Y * lo)) : Over9 w m D Y k (x + B9 * R - Y * lo) (putD O k lo) rv' w' := by
 have htop := hf.top
 refine ⟨harr, hb, fun i h1 h2 => ?_, hr, hf.done, ?_⟩
 ·by_cases e : i = k
  ·subst e; rw [putD_same]; unfold B9; omega
  ·rw [putD_other _ _ _ _ e]; exact h.dig i (by omega) h2
 ·rw [hi_step _ _ hk, hi_step _ _ hk, putD_same, hi_congr (D := putD O k lo) (E := O) (fun i h1 h2 => putD_other _ _ _ _ (by omega)), h.eq, ← hx]
  have h1 := hf.low
  rw [Nat.mul_add, Nat.add_mul, Nat.mul_assoc, Nat.mul_comm lo Y]
  omega

theorem Sm.small {n : Nat} (h : n ≤ 999999999) : Sm n := Sm.of_bits (k := 30) (by omega) (by omega)

end Go.Proofs.YthlkcppbljpooaaGreatDoor
/- The reference's natural numbers, contracts: common, length. -/
namespace Go.Proofs.YthlkcppbljpooaaGreatDoor
open Go.RowKit

end Go.Proofs.YthlkcppbljpooaaGreatDoor
/- The reference's natural numbers, contract: decimal. -/
namespace Go.Proofs.YthlkcppbljpooaaGreatDoor
open Go.RowKit

end Go.Proofs.YthlkcppbljpooaaGreatDoor
/- The reference's rational numbers, contracts: reduced, size, Of. -/
namespace Go.Proofs.YthlkcppbljpooaaGreatDoor
open Go.RowKit

/-- the value v is the number q, as the reference has it -/
def Q9 (w : World) (v : Value) (q : Rat) : Prop := ∃ vn vd, v = .agg #[.bool (qneg q), vn, vd] ∧ IsN B9 w vn (qnum q) ∧ IsN B9 w vd q.den
theorem Q9.later {w w' : World} {v : Value} {q : Rat} (h : Q9 w v q) (hb : Below w.heap.size w w') : Q9 w' v q :=
 let ⟨vn, vd, e, h1, h2⟩ := h; ⟨vn, vd, e, h1.later hb, h2.later hb⟩
/-- the block of a result -/
structure Res9 (w : World) (g : Nat) : Prop where
 c0 : w.cell? ⟨g, 0, none⟩ = some (.bool false)
 c1 : w.cell? ⟨g, 1, none⟩ = some (.slice none 0 0)
 c2 : w.cell? ⟨g, 2, none⟩ = some (.slice none 0 0)
 f0 : w.frozen? ⟨g, 0, none⟩ = false
 f1 : w.frozen? ⟨g, 1, none⟩ = false
 f2 : w.frozen? ⟨g, 2, none⟩ = false
theorem Res9.made (w : World) (t : TypeId) : Res9 (w.alloc (.cells #[.bool false, .slice none 0 0, .slice none 0 0] t)) w.heap.size := by
 constructor
 all_goals first
  | (rw [World.cell?_alloc_at _ _ _ _ rfl]; rfl)
  | exact World.frozen?_alloc_at _ _ _ _ rfl
theorem Res9.later {w w' : World} {B g : Nat} (h : Res9 w g) (hb : Below B w w') (hg : g < B) : Res9 w' g :=
 ⟨(hb.cell (p := ⟨g, 0, none⟩) hg).trans h.c0, (hb.cell (p := ⟨g, 1, none⟩) hg).trans h.c1, (hb.cell (p := ⟨g, 2, none⟩) hg).trans h.c2,
  (hb.frozen (p := ⟨g, 0, none⟩) hg).trans h.f0, (hb.frozen (p := ⟨g, 1, none⟩) hg).trans h.f1, (hb.frozen (p := ⟨g, 2, none⟩) hg).trans h.f2⟩
end Go.Proofs.YthlkcppbljpooaaGreatDoor
/- The reference's rational numbers, contracts: Text, Bits, Sign, Whole, Floor. -/
namespace Go.Proofs.YthlkcppbljpooaaGreatDoor
open Go.RowKit

/-- a number in a block of its own -/
structure At9 (w : World) (g : Nat) (vn vd : Value) (q : Rat) : Prop where
 neg : w.cell? ⟨g, 0, none⟩ = some (.bool (qneg q))
 num : w.cell? ⟨g, 1, none⟩ = some vn
 den : w.cell? ⟨g, 2, none⟩ = some vd
 isNum : IsN B9 w vn (qnum q)
 isDen : IsN B9 w vd q.den
theorem At9.made {w : World} {vn vd : Value} {q : Rat} {t : TypeId} (hn : IsN B9 w vn (qnum q)) (hd : IsN B9 w vd q.den) : At9 (w.alloc (.cells #[.bool (qneg q), vn, vd] t)) w.heap.size vn vd q :=
 ⟨by rw [World.cell?_alloc_at _ _ _ _ rfl]; rfl, by rw [World.cell?_alloc_at _ _ _ _ rfl]; rfl, by rw [World.cell?_alloc_at _ _ _ _ rfl]; rfl, hn.later (below_alloc _ _), hd.later (below_alloc _ _)⟩
theorem At9.later {w w' : World} {g : Nat} {vn vd : Value} {q : Rat} (h : At9 w g vn vd q) (hb : Below w.heap.size w w') : At9 w' g vn vd q :=
 have hg : g < w.heap.size := World.block_lt_of_cell? w ⟨g, 0, none⟩ h.neg
 ⟨(hb.cell (p := ⟨g, 0, none⟩) hg).trans h.neg, (hb.cell (p := ⟨g, 1, none⟩) hg).trans h.num, (hb.cell (p := ⟨g, 2, none⟩) hg).trans h.den, h.isNum.later hb, h.isDen.later hb⟩
/-- a number in a block of its own, its sign a letter -/
structure Bx9 (w : World) (g : Nat) (b : Bool) (vn vd : Value) (q : Rat) : Prop where
 neg : w.cell? ⟨g, 0, none⟩ = some (.bool b)
 num : w.cell? ⟨g, 1, none⟩ = some vn
 den : w.cell? ⟨g, 2, none⟩ = some vd
 isNum : IsN B9 w vn (qnum q)
 isDen : IsN B9 w vd q.den
end Go.Proofs.YthlkcppbljpooaaGreatDoor
/- The reference's rational numbers, contracts: Bits, Sign, Whole, Floor, word, Value. -/
namespace Go.Proofs.YthlkcppbljpooaaGreatDoor
open Go.RowKit

end Go.Proofs.YthlkcppbljpooaaGreatDoor
/- The reference's rational numbers, contracts: Floor, word, Missing, Truth, Value. -/
namespace Go.Proofs.YthlkcppbljpooaaGreatDoor
open Go.RowKit

end Go.Proofs.YthlkcppbljpooaaGreatDoor
/- The reference's rational numbers, contract: Value. -/
namespace Go.Proofs.YthlkcppbljpooaaGreatDoor
open Go.RowKit

end Go.Proofs.YthlkcppbljpooaaGreatDoor
