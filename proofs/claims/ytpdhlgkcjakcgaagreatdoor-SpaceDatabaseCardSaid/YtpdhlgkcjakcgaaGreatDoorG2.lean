/- Lemmas and contracts, each under its own condition: The reference's rational numbers, contracts: reduced, size, Of. The reference's rational numbers, contracts: Text, Bits, Sign, Whole, Floor. The reference's rational numbers, contracts: Bits, Sign, Whole, Floor, word, Value. The reference's rational numbers, contracts: Floor, word, Missing, Truth, Value. The reference's rational numbers, contract: Value. -/
import Derived.Deep.RegionHeld3
import Derived.Test.YtpdhlgkcjakcgaaGreatDoorG1
import Derived.Test.YtpdhlgkcjakcgaaGreatDoorR2
import Derived.Test.YtpdhlgkcjakcgaaGreatDoorT1
import Derived.Test.YtpdhlgkcjakcgaaGreatDoorV2
/- The reference's rational numbers, contracts: reduced, size, Of. -/
namespace Go.Proofs.YtpdhlgkcjakcgaaGreatDoor
open Go.RowKit

/-- the value v is the number q, as the reference has it -/
def Q9 (w : World) (v : Value) (q : Rat) : Prop := ∃ vn vd, v = .agg #[.bool (qneg q), vn, vd] ∧ IsN B9 w vn (qnum q) ∧ IsN B9 w vd q.den
theorem Q9.later {w w' : World} {v : Value} {q : Rat} (h : Q9 w v q) (hb : Below w.heap.size w w') : Q9 w' v q :=
  let ⟨vn, vd, e, h1, h2⟩ := h; ⟨vn, vd, e, h1.later hb, h2.later hb⟩
def RetQ9 (q : Rat) (w : World) (e : Ending) (w' : World) : Prop := ∃ v, e = .returned v ∧ Q9 w' v q ∧ Below w.heap.size w w'

/-- a cell that is no integer is written: numbers stay -/
theorem IsN.setFar {B X : Nat} {w : World} {v u : Value} {a : Addr} (h : IsN B w v X) (hc : w.cell? a = some u) (hu : ∀ k n, u ≠ .int k n) (z : Value) : IsN B (w.setCell a z) v X := by
  obtain ⟨n, D, r, s⟩ := h
  refine ⟨n, D, r, ?_⟩
  rcases s with s | ⟨g, cap, e, h1, h2, h3⟩
  · exact .inl s
  · refine .inr ⟨g, cap, e, h1, h2, fun i hi => ?_⟩
    have := h3 i hi
    rw [World.cell?_setCell_other w a ⟨g, i, none⟩ _ (fun e => by rw [e, this] at hc; injection hc with hc; exact hu _ _ hc.symm)]
    exact this

/-- the block of a result -/
structure Res9 (w : World) (g : Nat) : Prop where
  c0 : w.cell? ⟨g, 0, none⟩ = some (.bool false)
  c1 : w.cell? ⟨g, 1, none⟩ = some (.slice none 0 0)
  c2 : w.cell? ⟨g, 2, none⟩ = some (.slice none 0 0)
  f0 : w.frozen? ⟨g, 0, none⟩ = false
  f1 : w.frozen? ⟨g, 1, none⟩ = false
  f2 : w.frozen? ⟨g, 2, none⟩ = false
theorem Res9.made (w : World) (t : TypeId) : Res9 (w.alloc (.cells #[.bool false, .slice none 0 0, .slice none 0 0] t)) w.heap.size := by
  constructor
  all_goals first
    | (rw [World.cell?_alloc_at _ _ _ _ rfl]; rfl)
    | exact World.frozen?_alloc_at _ _ _ _ rfl
theorem Res9.later {w w' : World} {B g : Nat} (h : Res9 w g) (hb : Below B w w') (hg : g < B) : Res9 w' g :=
  ⟨(hb.cell (p := ⟨g, 0, none⟩) hg).trans h.c0, (hb.cell (p := ⟨g, 1, none⟩) hg).trans h.c1, (hb.cell (p := ⟨g, 2, none⟩) hg).trans h.c2,
    (hb.frozen (p := ⟨g, 0, none⟩) hg).trans h.f0, (hb.frozen (p := ⟨g, 1, none⟩) hg).trans h.f1, (hb.frozen (p := ⟨g, 2, none⟩) hg).trans h.f2⟩
theorem Res9.set3 {w : World} {g B X : Nat} {v : Value} (h : Res9 w g) (hv : IsN B w v X) (z0 z1 z2 : Value) :
    IsN B (((w.setCell ⟨g, 0, none⟩ z0).setCell ⟨g, 1, none⟩ z1).setCell ⟨g, 2, none⟩ z2) v X := by
  have e1 : (w.setCell ⟨g, 0, none⟩ z0).cell? ⟨g, 1, none⟩ = some (.slice none 0 0) := by
    rw [World.cell?_setCell_other w ⟨g, 0, none⟩ ⟨g, 1, none⟩ _ (by simp)]; exact h.c1
  have e2 : ((w.setCell ⟨g, 0, none⟩ z0).setCell ⟨g, 1, none⟩ z1).cell? ⟨g, 2, none⟩ = some (.slice none 0 0) := by
    rw [World.cell?_setCell_other _ ⟨g, 1, none⟩ ⟨g, 2, none⟩ _ (by simp), World.cell?_setCell_other w ⟨g, 0, none⟩ ⟨g, 2, none⟩ _ (by simp)]; exact h.c2
  exact ((hv.setFar h.c0 (fun _ _ => by simp) _).setFar e1 (fun _ _ => by simp) _).setFar e2 (fun _ _ => by simp) _
theorem below_set3 {w w1 : World} {a b c : Value} (h : Below w.heap.size w w1) :
    Below w.heap.size w (((w1.setCell ⟨w.heap.size, 0, none⟩ a).setCell ⟨w.heap.size, 1, none⟩ b).setCell ⟨w.heap.size, 2, none⟩ c) :=
  ((h.setCell (Nat.le_refl _) _).setCell (Nat.le_refl _) _).setCell (Nat.le_refl _) _

theorem sm_pow {k : Nat} (hk : k ≤ 1000000) : Sm (2 ^ k + 2 ^ k * 1000000000) := Sm.of_bits (k := k + 31) (by rw [Nat.pow_add]; have := Nat.pow_pos (n := k) (show 0 < 2 by decide); omega) (by omega)
theorem sm_lt {X k : Nat} (h : X < 2 ^ k) (hk : k ≤ 1000000) : Sm X := Sm.of_bits h (by omega)
theorem over_from {X Y k : Nat} {x y : Value} {w w1 w2 : World} (hx : IsN B9 w x X) (hy : IsN B9 w2 y Y) (bx : X < 2 ^ k) (by_ : Y ≤ 2 ^ k) (hk : k ≤ 1000000) (h0 : 0 < Y) (hb : Below w.heap.size w w1) (hb2 : Below w2.heap.size w2 w1) :
    Calls Tryz.prog 195 #[x, y] w1 (RetQ2 B9 (X / Y) (X % Y) w1) :=
  over_any (hx.later hb) (hy.later hb2) (sm_lt bx hk) ((sm_pow hk).mono (Nat.add_le_add (Nat.le_of_lt bx) (Nat.mul_le_mul_right _ by_))) h0

theorem size9_neg (n : Int) (w : World) (h1 : -9223372036854775808 ≤ n) (h2 : n < 0) :
    Calls Tryz.prog 177 #[.int .i64 n] w (RetN B9 n.natAbs w) := by
  have e := neg_u64 h1 h2
  have e2 : IntKind.u64.wrap (0 - IntKind.u64.wrap n) = (n.natAbs : Int) := by rw [Int.zero_sub]; exact e
  have hN := Lib.hid (natural_any n.natAbs (by omega) w)
  go_enter Tryz.func177, Tryz.ntmps177
  go_wp2_with fail
  refine hN.out.mono ?_
  rintro e w1 ⟨v, rfl, hv, hb⟩
  go_wp2
  go_ret
  exact ⟨_, rfl, hv, hb⟩
theorem size9_pos (n : Nat) (w : World) (h2 : n ≤ 9223372036854775807) :
    Calls Tryz.prog 177 #[.int .i64 (n : Int)] w (RetN B9 n w) := by
  have hN := Lib.hid (natural_any n (by omega) w)
  go_enter Tryz.func177, Tryz.ntmps177
  go_wp2_with fail
  refine hN.out.mono ?_
  rintro e w1 ⟨v, rfl, hv, hb⟩
  go_wp2
  go_ret
  exact ⟨_, rfl, hv, hb⟩
theorem size9_any (n : Int) (w : World) (h1 : -9223372036854775808 ≤ n) (h2 : n ≤ 9223372036854775807) :
    Calls Tryz.prog 177 #[.int .i64 n] w (RetN B9 n.natAbs w) := by
  by_cases h : n < 0
  · exact size9_neg n w h1 h
  · obtain ⟨k, rfl⟩ := Int.eq_ofNat_of_zero_le (show 0 ≤ n by omega)
    exact size9_pos k w (by omega)

/-- a number and no error -/
def RetQ9E (q : Rat) (w : World) (e : Ending) (w' : World) : Prop := ∃ v, e = .returned (.tuple #[v, .int .i64 0]) ∧ Q9 w' v q ∧ Below w.heap.size w w'
end Go.Proofs.YtpdhlgkcjakcgaaGreatDoor
/- The reference's rational numbers, contracts: Text, Bits, Sign, Whole, Floor. -/
namespace Go.Proofs.YtpdhlgkcjakcgaaGreatDoor
open Go.RowKit

/-- a number in a block of its own -/
structure At9 (w : World) (g : Nat) (vn vd : Value) (q : Rat) : Prop where
  neg : w.cell? ⟨g, 0, none⟩ = some (.bool (qneg q))
  num : w.cell? ⟨g, 1, none⟩ = some vn
  den : w.cell? ⟨g, 2, none⟩ = some vd
  isNum : IsN B9 w vn (qnum q)
  isDen : IsN B9 w vd q.den
theorem At9.made {w : World} {vn vd : Value} {q : Rat} {t : TypeId} (hn : IsN B9 w vn (qnum q)) (hd : IsN B9 w vd q.den) : At9 (w.alloc (.cells #[.bool (qneg q), vn, vd] t)) w.heap.size vn vd q :=
  ⟨by rw [World.cell?_alloc_at _ _ _ _ rfl]; rfl, by rw [World.cell?_alloc_at _ _ _ _ rfl]; rfl, by rw [World.cell?_alloc_at _ _ _ _ rfl]; rfl, hn.later (below_alloc _ _), hd.later (below_alloc _ _)⟩
theorem At9.later {w w' : World} {g : Nat} {vn vd : Value} {q : Rat} (h : At9 w g vn vd q) (hb : Below w.heap.size w w') : At9 w' g vn vd q :=
  have hg : g < w.heap.size := World.block_lt_of_cell? w ⟨g, 0, none⟩ h.neg
  ⟨(hb.cell (p := ⟨g, 0, none⟩) hg).trans h.neg, (hb.cell (p := ⟨g, 1, none⟩) hg).trans h.num, (hb.cell (p := ⟨g, 2, none⟩) hg).trans h.den, h.isNum.later hb, h.isDen.later hb⟩
theorem one9_any (w : World) : Calls Tryz.prog 178 #[.int .u64 1] w (RetN B9 1 w) := natural_any 1 (by decide) w
/-- a number in a block of its own, its sign a letter -/
structure Bx9 (w : World) (g : Nat) (b : Bool) (vn vd : Value) (q : Rat) : Prop where
  neg : w.cell? ⟨g, 0, none⟩ = some (.bool b)
  num : w.cell? ⟨g, 1, none⟩ = some vn
  den : w.cell? ⟨g, 2, none⟩ = some vd
  isNum : IsN B9 w vn (qnum q)
  isDen : IsN B9 w vd q.den
/-- a box, and what is known of it later -/
theorem box9 {w : World} {b : Bool} {vn vd : Value} {q : Rat} {t : TypeId} (hq : b = qneg q) (hn : IsN B9 w vn (qnum q)) (hd : IsN B9 w vd q.den) {w' : World}
    (hb : Below (w.alloc (.cells #[.bool b, vn, vd] t)).heap.size (w.alloc (.cells #[.bool b, vn, vd] t)) w') : Bx9 w' w.heap.size b vn vd q ∧ Below w.heap.size w w' := by
  subst hq
  have h := (At9.made (t := t) hn hd).later hb
  exact ⟨⟨h.neg, h.num, h.den, h.isNum, h.isDen⟩, below_keep (below_alloc _ _) hb⟩
/-- what holds of every later world, as a letter -/
theorem boxP {w : World} {b : Bool} {vn vd : Value} {q : Rat} (t : TypeId) (hq : b = qneg q) (hn : IsN B9 w vn (qnum q)) (hd : IsN B9 w vd q.den) :
    ∃ P : World → Prop, P (w.alloc (.cells #[.bool b, vn, vd] t)) ∧ Hid (∀ w1 w2, P w1 → Below w1.heap.size w1 w2 → P w2) ∧ Hid (∀ w1, P w1 → P w1.drew) ∧ Hid (∀ w1, P w1 → Bx9 w1 w.heap.size b vn vd q ∧ Below w.heap.size w w1) :=
  ⟨fun w1 => Below (w.alloc (.cells #[.bool b, vn, vd] t)).heap.size (w.alloc (.cells #[.bool b, vn, vd] t)) w1, Below.refl _ _, fun _ _ h1 h2 => below_keep h1 h2, fun _ h => h.drew, fun _ h => box9 hq hn hd h⟩
theorem cmpN_ne (x : Nat) : (cmpN x 1 != 0) = decide (x ≠ 1) := by
  unfold cmpN
  rw [Bool.eq_iff_iff]
  by_cases h1 : x < 1
  · rw [if_pos h1]; simp; omega
  · rw [if_neg h1]
    by_cases h2 : 1 < x
    · rw [if_pos h2]; simp; omega
    · rw [if_neg h2]; simp; omega
theorem cmpN_eq1 (x : Nat) : (cmpN x 1 == 0) = decide (x = 1) := by
  have := cmpN_ne x
  rw [bne] at this
  rw [Bool.eq_iff_iff] at this ⊢
  simp at this ⊢
  omega

end Go.Proofs.YtpdhlgkcjakcgaaGreatDoor
/- The reference's rational numbers, contracts: Bits, Sign, Whole, Floor, word, Value. -/
namespace Go.Proofs.YtpdhlgkcjakcgaaGreatDoor
open Go.RowKit

theorem sm_two {X k : Nat} (h : X < 2 ^ k) (hk : k ≤ 1000000) : Sm (X + 2000000000) :=
  Sm.of_bits (k := k + 32) (by rw [Nat.pow_add]; have := Nat.pow_pos (n := k) (show 0 < 2 by decide); omega) (by omega)
end Go.Proofs.YtpdhlgkcjakcgaaGreatDoor
/- The reference's rational numbers, contracts: Floor, word, Missing, Truth, Value. -/
namespace Go.Proofs.YtpdhlgkcjakcgaaGreatDoor
open Go.RowKit

theorem below_set3' {w w1 : World} {a b c : Value} {g : Nat} (h : Below w.heap.size w w1) (hg : w.heap.size ≤ g) :
    Below w.heap.size w (((w1.setCell ⟨g, 0, none⟩ a).setCell ⟨g, 1, none⟩ b).setCell ⟨g, 2, none⟩ c) :=
  ((h.setCell hg _).setCell hg _).setCell hg _

theorem cmp_over (X Y : Nat) : (decide (0 < cmpN X Y)) = decide (Y < X) := by
  unfold cmpN
  by_cases h : X < Y
  · rw [if_pos h, Bool.eq_iff_iff]; simp; omega
  · rw [if_neg h]
    by_cases h2 : Y < X
    · rw [if_pos h2, Bool.eq_iff_iff]; simp [h2]
    · rw [if_neg h2, Bool.eq_iff_iff]; simp; omega
end Go.Proofs.YtpdhlgkcjakcgaaGreatDoor
/- The reference's rational numbers, contract: Value. -/
namespace Go.Proofs.YtpdhlgkcjakcgaaGreatDoor
open Go.RowKit

theorem below_set4' {w w1 : World} {a b c d : Value} {g : Nat} (h : Below w.heap.size w w1) (hg : w.heap.size ≤ g) :
    Below w.heap.size w ((((w1.setCell ⟨g, 0, none⟩ a).setCell ⟨g, 1, none⟩ b).setCell ⟨g, 2, none⟩ c).setCell ⟨g, 3, none⟩ d) :=
  (((h.setCell hg _).setCell hg _).setCell hg _).setCell hg _

end Go.Proofs.YtpdhlgkcjakcgaaGreatDoor
