/- Lemmas and contracts, each under its own condition: The reference's rational numbers, contracts: reduced, size, Of. The reference's rational numbers, contracts: Text, Bits, Sign, Whole, Floor. The reference's rational numbers, contracts: Bits, Sign, Whole, Floor, word, Value. The reference's rational numbers, contracts: Floor, word, Missing, Truth, Value. The reference's rational numbers, contract: Value. -/
import Derived.Deep.RegionHeld3
import Derived.Test.YtebpfbgaafchjaaGreatDoorG1
import Derived.Test.YtebpfbgaafchjaaGreatDoorR2
import Derived.Test.YtebpfbgaafchjaaGreatDoorT1
import Derived.Test.YtebpfbgaafchjaaGreatDoorV2
/- The reference's rational numbers, contracts: reduced, size, Of. -/
namespace Go.Proofs.YtebpfbgaafchjaaGreatDoor
open Go.RowKit

/-- the value v is the number q, as the reference has it -/
def Q9 (w : World) (v : Value) (q : Rat) : Prop := ∃ vn vd, v = .agg #[.bool (qneg q), vn, vd] ∧ IsN B9 w vn (qnum q) ∧ IsN B9 w vd q.den
theorem Q9.later {w w' : World} {v : Value} {q : Rat} (h : Q9 w v q) (hb : Below w.heap.size w w') : Q9 w' v q :=
 let ⟨vn, vd, e, h1, h2⟩ := h; ⟨vn, vd, e, h1.later hb, h2.later hb⟩
/-- the block of a result -/
structure Res9 (w : World) (g : Nat) : Prop where
 c0 : w.cell? ⟨g, 0, none⟩ = some (.bool false)
 c1 : w.cell? ⟨g, 1, none⟩ = some (.slice none 0 0)
 c2 : w.cell? ⟨g, 2, none⟩ = some (.slice none 0 0)
 f0 : w.frozen? ⟨g, 0, none⟩ = false
 f1 : w.frozen? ⟨g, 1, none⟩ = false
 f2 : w.frozen? ⟨g, 2, none⟩ = false
theorem Res9.made (w : World) (t : TypeId) : Res9 (w.alloc (.cells #[.bool false, .slice none 0 0, .slice none 0 0] t)) w.heap.size := by
 constructor
 all_goals first
  | (rw [World.cell?_alloc_at _ _ _ _ rfl]; rfl)
  | exact World.frozen?_alloc_at _ _ _ _ rfl
theorem Res9.later {w w' : World} {B g : Nat} (h : Res9 w g) (hb : Below B w w') (hg : g < B) : Res9 w' g :=
 ⟨(hb.cell (p := ⟨g, 0, none⟩) hg).trans h.c0, (hb.cell (p := ⟨g, 1, none⟩) hg).trans h.c1, (hb.cell (p := ⟨g, 2, none⟩) hg).trans h.c2,
  (hb.frozen (p := ⟨g, 0, none⟩) hg).trans h.f0, (hb.frozen (p := ⟨g, 1, none⟩) hg).trans h.f1, (hb.frozen (p := ⟨g, 2, none⟩) hg).trans h.f2⟩
theorem sm_pow {k : Nat} (hk : k ≤ 1000000) : Sm (2 ^ k + 2 ^ k * 1000000000) := Sm.of_bits (k := k + 31) (by rw [Nat.pow_add]; have := Nat.pow_pos (n := k) (show 0 < 2 by decide); omega) (by omega)
theorem size9_neg (n : Int) (w : World) (h1 : -9223372036854775808 ≤ n) (h2 : n < 0) :
  Calls Tryz.prog 199 #[.int .i64 n] w (RetN B9 n.natAbs w) := by
 have e := neg_u64 h1 h2
 have e2 : IntKind.u64.wrap (0 - IntKind.u64.wrap n) = (n.natAbs : Int) := by rw [Int.zero_sub]; exact e
 have hN := Lib.hid (natural_any n.natAbs (by omega) w)
 go_enter Tryz.func199, Tryz.ntmps199
 go_wp2_with fail
 refine hN.out.mono ?_
 rintro e w1 ⟨v, rfl, hv, hb⟩
 go_wp2
 go_ret
 exact ⟨_, rfl, hv, hb⟩
theorem size9_pos (n : Nat) (w : World) (h2 : n ≤ 9223372036854775807) :
  Calls Tryz.prog 199 #[.int .i64 (n : Int)] w (RetN B9 n w) := by
 have hN := Lib.hid (natural_any n (by omega) w)
 go_enter Tryz.func199, Tryz.ntmps199
 go_wp2_with fail
 refine hN.out.mono ?_
 rintro e w1 ⟨v, rfl, hv, hb⟩
 go_wp2
 go_ret
 exact ⟨_, rfl, hv, hb⟩
theorem size9_any (n : Int) (w : World) (h1 : -9223372036854775808 ≤ n) (h2 : n ≤ 9223372036854775807) :
  Calls Tryz.prog 199 #[.int .i64 n] w (RetN B9 n.natAbs w) := by
 by_cases h : n < 0
 ·exact size9_neg n w h1 h
 ·obtain ⟨k, rfl⟩ := Int.eq_ofNat_of_zero_le (show 0 ≤ n by omega)
  exact size9_pos k w (by omega)

end Go.Proofs.YtebpfbgaafchjaaGreatDoor
/- The reference's rational numbers, contracts: Text, Bits, Sign, Whole, Floor. -/
namespace Go.Proofs.YtebpfbgaafchjaaGreatDoor
open Go.RowKit

/-- a number in a block of its own -/
structure At9 (w : World) (g : Nat) (vn vd : Value) (q : Rat) : Prop where
 neg : w.cell? ⟨g, 0, none⟩ = some (.bool (qneg q))
 num : w.cell? ⟨g, 1, none⟩ = some vn
 den : w.cell? ⟨g, 2, none⟩ = some vd
 isNum : IsN B9 w vn (qnum q)
 isDen : IsN B9 w vd q.den
theorem At9.made {w : World} {vn vd : Value} {q : Rat} {t : TypeId} (hn : IsN B9 w vn (qnum q)) (hd : IsN B9 w vd q.den) : At9 (w.alloc (.cells #[.bool (qneg q), vn, vd] t)) w.heap.size vn vd q :=
 ⟨by rw [World.cell?_alloc_at _ _ _ _ rfl]; rfl, by rw [World.cell?_alloc_at _ _ _ _ rfl]; rfl, by rw [World.cell?_alloc_at _ _ _ _ rfl]; rfl, hn.later (below_alloc _ _), hd.later (below_alloc _ _)⟩
theorem At9.later {w w' : World} {g : Nat} {vn vd : Value} {q : Rat} (h : At9 w g vn vd q) (hb : Below w.heap.size w w') : At9 w' g vn vd q :=
 have hg : g < w.heap.size := World.block_lt_of_cell? w ⟨g, 0, none⟩ h.neg
 ⟨(hb.cell (p := ⟨g, 0, none⟩) hg).trans h.neg, (hb.cell (p := ⟨g, 1, none⟩) hg).trans h.num, (hb.cell (p := ⟨g, 2, none⟩) hg).trans h.den, h.isNum.later hb, h.isDen.later hb⟩
/-- a number in a block of its own, its sign a letter -/
structure Bx9 (w : World) (g : Nat) (b : Bool) (vn vd : Value) (q : Rat) : Prop where
 neg : w.cell? ⟨g, 0, none⟩ = some (.bool b)
 num : w.cell? ⟨g, 1, none⟩ = some vn
 den : w.cell? ⟨g, 2, none⟩ = some vd
 isNum : IsN B9 w vn (qnum q)
 isDen : IsN B9 w vd q.den
theorem cmpN_ne (x : Nat) : (cmpN x 1 != 0) = decide (x ≠ 1) := by
 unfold cmpN
 rw [Bool.eq_iff_iff]
 by_cases h1 : x < 1
 ·rw [if_pos h1]; simp; omega
 ·rw [if_neg h1]
  by_cases h2 : 1 < x
  ·rw [if_pos h2]; simp; omega
  ·rw [if_neg h2]; simp; omega
end Go.Proofs.YtebpfbgaafchjaaGreatDoor
/- The reference's rational numbers, contracts: Bits, Sign, Whole, Floor, word, Value. -/
namespace Go.Proofs.YtebpfbgaafchjaaGreatDoor
open Go.RowKit

end Go.Proofs.YtebpfbgaafchjaaGreatDoor
/- The reference's rational numbers, contracts: Floor, word, Missing, Truth, Value. -/
namespace Go.Proofs.YtebpfbgaafchjaaGreatDoor
open Go.RowKit

end Go.Proofs.YtebpfbgaafchjaaGreatDoor
/- The reference's rational numbers, contract: Value. -/
namespace Go.Proofs.YtebpfbgaafchjaaGreatDoor
open Go.RowKit

end Go.Proofs.YtebpfbgaafchjaaGreatDoor
