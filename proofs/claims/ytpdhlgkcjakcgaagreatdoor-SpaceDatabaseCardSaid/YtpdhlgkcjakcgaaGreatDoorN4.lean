/- Lemmas and contracts, each under its own condition: bits.LeadingZeros32, bits.Len32, in the words of the proofs. Contract: div. Contract: div, the long way. Contracts: gcd, length. -/
import Derived.Deep.LoopGhost
import Derived.Test.YtpdhlgkcjakcgaaGreatDoorN1
import Derived.Test.YtpdhlgkcjakcgaaGreatDoorN3
import Derived.Test.YtpdhlgkcjakcgaaGreatDoorShelf
/- bits.LeadingZeros32, bits.Len32, in the words of the proofs. -/
namespace Go.Proofs.YtpdhlgkcjakcgaaGreatDoor
open Go.RowKit

/-- how many binary digits a number has -/
def blen (x : Nat) : Nat := if x = 0 then 0 else Nat.log2 x + 1
theorem bitLenAux_eq : ∀ f x, x < 2 ^ f → Lib.bitLenAux f x = blen x := by
  intro f
  induction f with
  | zero => intro x h; have : x = 0 := by simpa using h
            subst this; rfl
  | succ f ih =>
    intro x h
    simp only [Lib.bitLenAux]
    by_cases h0 : x = 0
    · simp [h0, blen]
    · rw [if_neg h0, ih (x / 2) (by rw [Nat.pow_succ] at h; omega)]
      unfold blen
      rw [if_neg h0]
      by_cases h1 : x / 2 = 0
      · have : x = 1 := by omega
        subst this; decide
      · rw [if_neg h1]
        have : x.log2 = (x / 2).log2 + 1 := by
          rw [Nat.log2_def, if_pos (by omega)]
        omega
theorem bitLen_eq {x : Nat} (h : x < 18446744073709551616) : Lib.bitLen x = blen x := bitLenAux_eq 64 x h

theorem blen_lt {x : Nat} : x < 2 ^ blen x := by
  unfold blen; split
  · rename_i h; rw [h]; decide
  · exact Nat.lt_log2_self
theorem blen_ge {x : Nat} (h : x ≠ 0) : 2 ^ (blen x - 1) ≤ x := by
  unfold blen; rw [if_neg h]; exact Nat.log2_self_le h
theorem blen_le {x k : Nat} (h : x < 2 ^ k) : blen x ≤ k := by
  by_cases h0 : x = 0
  · simp [blen, h0]
  · have h1 := blen_ge h0
    have h2 : 2 ^ (blen x - 1) < 2 ^ k := by omega
    have := (Nat.pow_lt_pow_iff_right (by decide : 1 < 2)).1 h2
    omega
theorem blen_unique {x k : Nat} (hk : 0 < k) (h1 : 2 ^ (k - 1) ≤ x) (h2 : x < 2 ^ k) : blen x = k := by
  have h3 := blen_le h2
  have h4 : 2 ^ (k - 1) < 2 ^ blen x := Nat.lt_of_le_of_lt h1 blen_lt
  have h5 := (Nat.pow_lt_pow_iff_right (by decide : 1 < 2)).1 h4
  omega

theorem len32_any (x : Nat) (hx : x < B32) (w : World) :
    Calls Tryz.prog 161 #[.int .u32 x] w fun e w' => e = .returned (.int .i64 (blen x)) ∧ w = w' :=
  (Tryz.bits_Len32 (x : Int) w (by omega) (by unfold B32 at hx; omega)).mono fun e w' ⟨he, hw⟩ => ⟨by rw [he, Int.toNat_natCast, bitLen_eq (by unfold B32 at hx; omega)], hw.symm⟩

/-- the shift that makes a digit at least half the base -/
def RetLz (x : Nat) (w : World) (e : Ending) (w' : World) : Prop := ∃ s : Nat, e = .returned (.int .i64 s) ∧ s < 32 ∧ x * 2 ^ s < B32 ∧ B32 ≤ 2 * (x * 2 ^ s) ∧ w = w'
end Go.Proofs.YtpdhlgkcjakcgaaGreatDoor
/- Contract: div. -/
namespace Go.Proofs.YtpdhlgkcjakcgaaGreatDoor
open Go.RowKit

/-- two numbers -/
def RetNN (B X Y : Nat) (w : World) (e : Ending) (w' : World) : Prop :=
  ∃ v u, e = .returned (.tuple #[v, u]) ∧ IsN B w' v X ∧ IsN B w' u Y ∧ Below w.heap.size w w'


end Go.Proofs.YtpdhlgkcjakcgaaGreatDoor
/- Contract: div, the long way. -/
namespace Go.Proofs.YtpdhlgkcjakcgaaGreatDoor
open Go.RowKit

theorem hi_top_lt {m n s : Nat} {U V : Nat → Nat} (hn : 2 ≤ n) (hmn : n ≤ m) (hs : s < 32) (hU : ∀ i, i < m + 1 → U i < B32) {X : Nat} (hX : X < B32 ^ m) (hUv : fval B32 U (m + 1) = X * 2 ^ s)
    (hhalf : B32 ≤ 2 * V (n - 1)) : hi B32 U (m + 1 - n) (m + 1) < fval B32 V n := by
  have hp : 2 ^ s * 2 ≤ B32 := by
    have h1 : 2 ^ s ≤ 2 ^ 31 := Nat.pow_le_pow_right (by decide) (by omega)
    unfold B32; omega
  have htop : U m < 2 ^ s := by
    apply Classical.byContradiction
    intro h
    have h1 : B32 ^ m * 2 ^ s ≤ B32 ^ m * U m := Nat.mul_le_mul_left _ (by omega)
    have h2 : X * 2 ^ s < B32 ^ m * 2 ^ s := (Nat.mul_lt_mul_right (Nat.pow_pos (by decide))).2 hX
    rw [fval_succ] at hUv
    omega
  obtain ⟨k, rfl⟩ : ∃ k, n = k + 1 := ⟨n - 1, by omega⟩
  have e : hi B32 U (m + 1 - (k + 1)) (m + 1) = fval B32 (fun i => U (m + 1 - (k + 1) + i)) k + B32 ^ k * U m := by
    unfold hi
    rw [show m + 1 - (m + 1 - (k + 1)) = k + 1 from by omega, fval_succ]
    congr 3
    omega
  have h1 : fval B32 (fun i => U (m + 1 - (k + 1) + i)) k < B32 ^ k := fval_lt k (fun i hi => hU _ (by omega))
  have h2 : B32 ^ k * (U m + 1) ≤ B32 ^ k * V k := by
    refine Nat.mul_le_mul_left _ ?_
    simp only [Nat.add_sub_cancel] at hhalf
    omega
  rw [e, fval_succ]
  rw [Nat.mul_add] at h2
  omega

/-- y shifted: n digits, the highest one at least half the base -/
theorem shifted_len {n s Y : Nat} {E V : Nat → Nat} (hn : 2 ≤ n) (hr : Rep B32 E n Y) (hs1 : E (n - 1) * 2 ^ s < B32) (hs2 : B32 ≤ 2 * (E (n - 1) * 2 ^ s)) (hV : ∀ i, i < n + 1 → V i < B32)
    (hval : fval B32 V (n + 1) = Y * 2 ^ s) : tlen V (n + 1) = n ∧ B32 ≤ 2 * V (n - 1) ∧ fval B32 V n = Y * 2 ^ s := by
  obtain ⟨k, rfl⟩ : ∃ k, n = k + 1 := ⟨n - 1, by omega⟩
  simp only [Nat.add_sub_cancel] at *
  have hYlo : B32 ^ k * E k ≤ Y := by rw [← hr.eq, fval_succ]; omega
  have hYhi : Y < B32 ^ k * (E k + 1) := by
    have := fval_lt k (fun i hi => hr.dig i (by omega))
    rw [← hr.eq, fval_succ, Nat.mul_add]; omega
  have hp : 0 < 2 ^ s := Nat.pow_pos (by decide)
  have hb : B32 ^ k * (E k + 1) * 2 ^ s ≤ B32 ^ k * B32 := by
    rw [Nat.mul_assoc]
    refine Nat.mul_le_mul_left _ ?_
    -- (E k + 1) 2^s is at most the base: both are multiples of 2^s
    have hs : s < 32 := by
      apply Classical.byContradiction
      intro h
      have h1 : 2 ^ 32 ≤ 2 ^ s := Nat.pow_le_pow_right (by decide) (by omega)
      have h2 : 0 < E k := by
        apply Nat.pos_of_ne_zero; intro e; rw [e] at hs2; unfold B32 at hs2; omega
      have h3 : 1 * 2 ^ s ≤ E k * 2 ^ s := Nat.mul_le_mul_right _ h2
      unfold B32 at hs1; omega
    have hB := shift_pow hs
    rw [← hB, Nat.mul_comm (2 ^ s)] at hs1
    have h1 : E k < 2 ^ (32 - s) := Nat.lt_of_mul_lt_mul_right hs1
    rw [← hB, Nat.mul_comm (2 ^ s)]
    exact Nat.mul_le_mul_right _ h1
  have hYs : Y * 2 ^ s < B32 ^ (k + 1) := by
    rw [Nat.pow_succ]
    exact Nat.lt_of_lt_of_le ((Nat.mul_lt_mul_right hp).2 hYhi) hb
  have hz : V (k + 1) = 0 := fval_high_zero (B := B32) (n := k + 1 + 1) (by decide) (by rw [hval]; exact hYs) (k + 1) (Nat.le_refl _) (by omega)
  have hv : fval B32 V (k + 1) = Y * 2 ^ s := by rw [← hval, fval_succ B32 V (k + 1), hz]; omega
  have hk : B32 ≤ 2 * V k := by
    apply Classical.byContradiction
    intro h
    have h1 := fval_lt k (fun i hi => hV i (by omega))
    have h2 : B32 ^ k * (2 * V k + 2) ≤ B32 ^ k * B32 := Nat.mul_le_mul_left _ (by unfold B32 at *; omega)
    have h3 : B32 ^ k * B32 ≤ B32 ^ k * (2 * (E k * 2 ^ s)) := Nat.mul_le_mul_left _ hs2
    have h4 : B32 ^ k * E k * 2 ^ s ≤ Y * 2 ^ s := Nat.mul_le_mul_right _ hYlo
    rw [fval_succ] at hv
    rw [Nat.mul_add, Nat.mul_left_comm] at h2
    rw [Nat.mul_left_comm, ← Nat.mul_assoc (B32 ^ k)] at h3
    omega
  refine ⟨?_, hk, hv⟩
  rw [tlen, if_pos hz]
  exact tlen_of_top (by simp only [Nat.add_sub_cancel]; unfold B32 at hk; omega)

/-- digit i of a row that is shifted to the right -/
def shrD (T : Nat → Nat) (s i : Nat) : Nat := T i / 2 ^ s + T (i + 1) % 2 ^ s * 2 ^ (32 - s)
/-- i digits have been shifted -/
structure ShrInv (w : World) (g1 g3 t s l : Nat) (T Q : Nat → Nat) (i : Nat) (wr : World) : Prop where
  arr : Arr wr g1 t (fun k => if k < i then shrD T s k else T k)
  q : Cells wr g3 l Q
  below : Below w.heap.size w wr

theorem div_pow_int (a s : Nat) : (a : Int) / 2 ^ s = ((a / 2 ^ s : Nat) : Int) := by simp
theorem shr_or {a b s : Nat} (ha : a < B32) (hb : b < B32) (hs : s < 32) :
    Value.int .u32 (bits .or .u32 ((a : Int) / 2 ^ s) (IntKind.u64.wrap (IntKind.u64.wrap (b : Int) * 2 ^ (32 - s)) % 4294967296)) = .int .u32 ((a / 2 ^ s + b % 2 ^ s * 2 ^ (32 - s) : Nat) : Int) := by
  have hp : 0 < 2 ^ s := Nat.pow_pos (by decide)
  have hB := shift_pow hs
  have h1 : a / 2 ^ s < 2 ^ (32 - s) := by
    rw [Nat.div_lt_iff_lt_mul hp, Nat.mul_comm, hB]; exact ha
  have h2 : 2 ^ (32 - s) ≤ 2 ^ 32 := Nat.pow_le_pow_right (by decide) (by omega)
  have h3 : b * 2 ^ (32 - s) < 4294967296 * 4294967296 := Nat.lt_of_lt_of_le ((Nat.mul_lt_mul_right (Nat.pow_pos (by decide))).2 hb) (Nat.mul_le_mul_left _ h2)
  have e1 : ((b * 2 ^ (32 - s) : Nat) : Int) = (b : Int) * 2 ^ (32 - s) := by simp
  have e2 : (b : Int) % 18446744073709551616 = b := by unfold B32 at hb; omega
  have e3 : IntKind.u64.wrap (IntKind.u64.wrap (b : Int) * 2 ^ (32 - s)) % 4294967296 = ((b % 2 ^ s * 2 ^ (32 - s) : Nat) : Int) := by
    rw [wrap_u64', wrap_u64', e2, ← e1]
    have e4 : b * 2 ^ (32 - s) % B32 = b % 2 ^ s * 2 ^ (32 - s) := by rw [← hB, Nat.mul_mod_mul_right]
    rw [← e4]
    unfold B32
    omega
  rw [e3, div_pow_int, u32_or_nat _ _ (by omega) (by rw [← Nat.mul_mod_mul_right, hB]; exact Nat.mod_lt _ (by decide)), Nat.or_comm, nat_join (32 - s) _ _ (Nat.mul_mod_left _ _) h1, Nat.add_comm]

theorem ShrInv.put {w wr : World} {g1 g3 t s l i : Nat} {T Q : Nat → Nat} (h : ShrInv w g1 g3 t s l T Q i wr) (hi : i < t) (h13 : g1 ≠ g3) (hw : w.heap.size ≤ g1) {z : Value} (hz : z = .int .u32 (shrD T s i : Nat)) :
    ShrInv w g1 g3 t s l T Q (i + 1) (wr.setCell ⟨g1, i, none⟩ z) := by
  have h1 := h.arr.set i (shrD T s i) hi hz
  refine ⟨⟨fun k hk => ?_, h1.free⟩, fun k hk => ?_, h.below.setCell hw _⟩
  · rw [h1.cell k hk]
    congr 3
    by_cases e : k = i
    · subst e; rw [putD_same, if_pos (by omega)]
    · rw [putD_other _ _ _ _ e]
      by_cases e2 : k < i
      · rw [if_pos e2, if_pos (by omega)]
      · rw [if_neg e2, if_neg (by omega)]
  · rw [World.cell?_setCell_other wr ⟨g1, i, none⟩ ⟨g3, k, none⟩ _ (fun e => by injection e with e1; exact h13 e1)]
    exact h.q k hk
/-- the first of two stores to one cell -/
theorem ShrInv.pre {w wr : World} {g1 g3 t s l i : Nat} {T Q : Nat → Nat} (h : ShrInv w g1 g3 t s l T Q i wr) (hi : i < t) (h13 : g1 ≠ g3) (hw : w.heap.size ≤ g1) {z y : Value} (hz : z = .int .u32 (shrD T s i : Nat)) (x : Nat) (hy : y = .int .u32 (x : Int)) :
    ShrInv w g1 g3 t s l T Q (i + 1) ((wr.setCell ⟨g1, i, none⟩ y).setCell ⟨g1, i, none⟩ z) := by
  have h1 := (h.arr.set i x hi hy).set i (shrD T s i) hi hz
  refine ⟨⟨fun k hk => ?_, h1.free⟩, fun k hk => ?_, (h.below.setCell hw _).setCell hw _⟩
  · rw [h1.cell k hk]
    congr 3
    by_cases e : k = i
    · subst e; rw [putD_same, if_pos (by omega)]
    · rw [putD_other _ _ _ _ e, putD_other _ _ _ _ e]
      by_cases e2 : k < i
      · rw [if_pos e2, if_pos (by omega)]
      · rw [if_neg e2, if_neg (by omega)]
  · rw [World.cell?_setCell_other (wr.setCell ⟨g1, i, none⟩ y) ⟨g1, i, none⟩ ⟨g3, k, none⟩ _ (fun e => by injection e with e1; exact h13 e1),
      World.cell?_setCell_other wr ⟨g1, i, none⟩ ⟨g3, k, none⟩ _ (fun e => by injection e with e1; exact h13 e1)]
    exact h.q k hk
theorem ShrInv.drew {w wr : World} {g1 g3 t s l i : Nat} {T Q : Nat → Nat} (h : ShrInv w g1 g3 t s l T Q i wr) : ShrInv w g1 g3 t s l T Q i wr.drew :=
  ⟨h.arr.drew, h.q, h.below.drew⟩

end Go.Proofs.YtpdhlgkcjakcgaaGreatDoor
/- Contracts: gcd, length. -/
namespace Go.Proofs.YtpdhlgkcjakcgaaGreatDoor
open Go.RowKit

end Go.Proofs.YtpdhlgkcjakcgaaGreatDoor
