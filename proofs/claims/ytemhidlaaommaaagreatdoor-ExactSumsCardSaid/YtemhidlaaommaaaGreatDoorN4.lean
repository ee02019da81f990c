/- Lemmas and contracts, each under its own condition: bits.LeadingZeros32, bits.Len32, in the words of the proofs. Contract: div. Contract: div, the long way. Contracts: gcd, length. -/
import Derived.Deep.LoopGhost
import Derived.Test.YtemhidlaaommaaaGreatDoorN1
import Derived.Test.YtemhidlaaommaaaGreatDoorN3
import Derived.Test.YtemhidlaaommaaaGreatDoorShelf
/- bits.LeadingZeros32, bits.Len32, in the words of the proofs. -/
namespace Go.Proofs.YtemhidlaaommaaaGreatDoor
open Go.RowKit

/-- how many binary digits a number has -/
def blen (x : Nat) : Nat := if x = 0 then 0 else Nat.log2 x + 1
theorem bitLenAux_eq : ∀ f x, x < 2 ^ f → Lib.bitLenAux f x = blen x := by
  intro f
  induction f with
  | zero => intro x h; have : x = 0 := by simpa using h
            subst this; rfl
  | succ f ih =>
    intro x h
    simp only [Lib.bitLenAux]
    by_cases h0 : x = 0
    · simp [h0, blen]
    · rw [if_neg h0, ih (x / 2) (by rw [Nat.pow_succ] at h; omega)]
      unfold blen
      rw [if_neg h0]
      by_cases h1 : x / 2 = 0
      · have : x = 1 := by omega
        subst this; decide
      · rw [if_neg h1]
        have : x.log2 = (x / 2).log2 + 1 := by
          rw [Nat.log2_def, if_pos (by omega)]
        omega
theorem bitLen_eq {x : Nat} (h : x < 18446744073709551616) : Lib.bitLen x = blen x := bitLenAux_eq 64 x h

theorem blen_lt {x : Nat} : x < 2 ^ blen x := by
  unfold blen; split
  · rename_i h; rw [h]; decide
  · exact Nat.lt_log2_self
theorem blen_ge {x : Nat} (h : x ≠ 0) : 2 ^ (blen x - 1) ≤ x := by
  unfold blen; rw [if_neg h]; exact Nat.log2_self_le h
theorem blen_le {x k : Nat} (h : x < 2 ^ k) : blen x ≤ k := by
  by_cases h0 : x = 0
  · simp [blen, h0]
  · have h1 := blen_ge h0
    have h2 : 2 ^ (blen x - 1) < 2 ^ k := by omega
    have := (Nat.pow_lt_pow_iff_right (by decide : 1 < 2)).1 h2
    omega
theorem blen_unique {x k : Nat} (hk : 0 < k) (h1 : 2 ^ (k - 1) ≤ x) (h2 : x < 2 ^ k) : blen x = k := by
  have h3 := blen_le h2
  have h4 : 2 ^ (k - 1) < 2 ^ blen x := Nat.lt_of_le_of_lt h1 blen_lt
  have h5 := (Nat.pow_lt_pow_iff_right (by decide : 1 < 2)).1 h4
  omega

theorem len32_any (x : Nat) (hx : x < B32) (w : World) :
    Calls Tryz.prog 148 #[.int .u32 x] w fun e w' => e = .returned (.int .i64 (blen x)) ∧ w = w' :=
  (Tryz.bits_Len32 (x : Int) w (by omega) (by unfold B32 at hx; omega)).mono fun e w' ⟨he, hw⟩ => ⟨by rw [he, Int.toNat_natCast, bitLen_eq (by unfold B32 at hx; omega)], hw.symm⟩

/-- the shift that makes a digit at least half the base -/
def RetLz (x : Nat) (w : World) (e : Ending) (w' : World) : Prop := ∃ s : Nat, e = .returned (.int .i64 s) ∧ s < 32 ∧ x * 2 ^ s < B32 ∧ B32 ≤ 2 * (x * 2 ^ s) ∧ w = w'
theorem lz32_any (x : Nat) (hx : x < B32) (h0 : x ≠ 0) (w : World) : Calls Tryz.prog 143 #[.int .u32 x] w (RetLz x w) :=
  (Tryz.bits_LeadingZeros32 (x : Int) w (by omega) (by unfold B32 at hx; omega)).mono fun e w' ⟨he, hw⟩ => by
    have h1 : blen x ≤ 32 := blen_le hx
    have h2 := blen_ge h0
    have h3 := @blen_lt x
    have h4 : blen x ≠ 0 := by intro e; rw [e] at h3; simp at h3; omega
    rw [Int.toNat_natCast, bitLen_eq (by unfold B32 at hx; omega)] at he
    refine ⟨32 - blen x, by rw [he]; congr 2; omega, by omega, ?_, ?_, hw.symm⟩
    · have e : B32 = 2 ^ blen x * 2 ^ (32 - blen x) := by rw [← Nat.pow_add, show blen x + (32 - blen x) = 32 from by omega]
      rw [e]
      exact (Nat.mul_lt_mul_right (Nat.pow_pos (by decide))).2 h3
    · have e : B32 = 2 * (2 ^ (blen x - 1) * 2 ^ (32 - blen x)) := by
        rw [← Nat.pow_add, show blen x - 1 + (32 - blen x) = 31 from by omega]
      rw [e]
      exact Nat.mul_le_mul_left _ (Nat.mul_le_mul_right _ h2)
end Go.Proofs.YtemhidlaaommaaaGreatDoor
/- Contract: div. -/
namespace Go.Proofs.YtemhidlaaommaaaGreatDoor
open Go.RowKit

/-- two numbers -/
def RetNN (B X Y : Nat) (w : World) (e : Ending) (w' : World) : Prop :=
  ∃ v u, e = .returned (.tuple #[v, u]) ∧ IsN B w' v X ∧ IsN B w' u Y ∧ Below w.heap.size w w'


/-- x is below y -/
theorem div_lt {X Y : Nat} {x y : Value} {w : World} (hx : IsN B32 w x X) (hy : IsN B32 w y Y) (h : X < Y) :
    Calls Tryz.prog 106 #[x, y] w (RetNN B32 (X / Y) (X % Y) w) := by
  have hc := cmp_any hx hy
  rw [cmpN, if_pos h] at hc
  have h1 : X / Y = 0 := Nat.div_eq_of_lt h
  have h2 : X % Y = X := Nat.mod_eq_of_lt h
  rw [h1, h2]
  clear h1 h2
  go_enter Tryz.func106, Tryz.ntmps106
  go_wp2_with (go_at_call 126; refine hc.mono ?_; rintro e w' ⟨rfl, q, rfl⟩)
  go_ret2
  exact ⟨_, _, rfl, IsN.nil _ _, hx.later (below_drewN' _ _), below_drewN' _ _⟩

theorem cmp_ge {X Y : Nat} {x y : Value} {w : World} (hx : IsN B32 w x X) (hy : IsN B32 w y Y) (h : Y ≤ X) :
    ∃ c : Int, 0 ≤ c ∧ c ≤ 1 ∧ Calls Tryz.prog 126 #[x, y] w (RetQ (.int .i64 c) w) := by
  have hc := cmp_any hx hy
  rw [cmpN, if_neg (by omega)] at hc
  refine ⟨_, ?_, ?_, hc⟩
  · split <;> omega
  · split <;> omega

/-- y has one digit -/
theorem div_one {X d g cap : Nat} {D : Nat → Nat} {x : Value} {w : World} (hx : IsN B32 w x X) (sx : Sm X) (hr : Rep B32 D 1 d) (hc : Cells w g 1 D) (hcap : 1 ≤ cap) (hcap2 : cap ≤ 9223372036854775807) (h : d ≤ X) :
    Calls Tryz.prog 106 #[x, .slice (some ⟨g, 0, none⟩) 1 cap] w (RetNN B32 (X / d) (X % d) w) := by
  obtain ⟨c, c0, c1, hcmp⟩ := cmp_ge hx ⟨1, D, hr, .inr ⟨g, cap, rfl, hcap, hcap2, hc⟩⟩ h
  have hd : D 0 = d := by have := hr.eq; simpa [fval] using this
  have hd0 : 0 < d := by have := hr.top (by omega); simp at this; omega
  have hd1 : d < B32 := by rw [← hd]; exact hr.dig 0 (by omega)
  have hcell := hc 0 (by omega)
  rw [hd] at hcell
  have hsm : X % d < 18446744073709551616 := by have := Nat.mod_lt X hd0; unfold B32 at hd1; omega
  clear hd hc hr
  go_enter Tryz.func106, Tryz.ntmps106
  go_wp2_with fail
  refine hcmp.mono ?_
  rintro e w' ⟨rfl, q, rfl⟩
  go_wp2_with fail
  refine (small_any (hx.later (below_drewN' _ _)) sx hd0 hd1).mono ?_
  rintro e w1 ⟨v, rfl, hv, hb1⟩
  go_wp2_with fail
  refine (natOf_any (X % d) hsm _).mono ?_
  rintro e w2 ⟨u, rfl, hu, hb2⟩
  go_wp2
  go_ret2
  exact ⟨_, _, rfl, hv.later hb2, hu, (below_drewN' _ _).trans (hb1.trans (hb2.mono hb1.size))⟩

end Go.Proofs.YtemhidlaaommaaaGreatDoor
/- Contract: div, the long way. -/
namespace Go.Proofs.YtemhidlaaommaaaGreatDoor
open Go.RowKit

theorem hi_top_lt {m n s : Nat} {U V : Nat → Nat} (hn : 2 ≤ n) (hmn : n ≤ m) (hs : s < 32) (hU : ∀ i, i < m + 1 → U i < B32) {X : Nat} (hX : X < B32 ^ m) (hUv : fval B32 U (m + 1) = X * 2 ^ s)
    (hhalf : B32 ≤ 2 * V (n - 1)) : hi B32 U (m + 1 - n) (m + 1) < fval B32 V n := by
  have hp : 2 ^ s * 2 ≤ B32 := by
    have h1 : 2 ^ s ≤ 2 ^ 31 := Nat.pow_le_pow_right (by decide) (by omega)
    unfold B32; omega
  have htop : U m < 2 ^ s := by
    apply Classical.byContradiction
    intro h
    have h1 : B32 ^ m * 2 ^ s ≤ B32 ^ m * U m := Nat.mul_le_mul_left _ (by omega)
    have h2 : X * 2 ^ s < B32 ^ m * 2 ^ s := (Nat.mul_lt_mul_right (Nat.pow_pos (by decide))).2 hX
    rw [fval_succ] at hUv
    omega
  obtain ⟨k, rfl⟩ : ∃ k, n = k + 1 := ⟨n - 1, by omega⟩
  have e : hi B32 U (m + 1 - (k + 1)) (m + 1) = fval B32 (fun i => U (m + 1 - (k + 1) + i)) k + B32 ^ k * U m := by
    unfold hi
    rw [show m + 1 - (m + 1 - (k + 1)) = k + 1 from by omega, fval_succ]
    congr 3
    omega
  have h1 : fval B32 (fun i => U (m + 1 - (k + 1) + i)) k < B32 ^ k := fval_lt k (fun i hi => hU _ (by omega))
  have h2 : B32 ^ k * (U m + 1) ≤ B32 ^ k * V k := by
    refine Nat.mul_le_mul_left _ ?_
    simp only [Nat.add_sub_cancel] at hhalf
    omega
  rw [e, fval_succ]
  rw [Nat.mul_add] at h2
  omega

/-- y shifted: n digits, the highest one at least half the base -/
theorem shifted_len {n s Y : Nat} {E V : Nat → Nat} (hn : 2 ≤ n) (hr : Rep B32 E n Y) (hs1 : E (n - 1) * 2 ^ s < B32) (hs2 : B32 ≤ 2 * (E (n - 1) * 2 ^ s)) (hV : ∀ i, i < n + 1 → V i < B32)
    (hval : fval B32 V (n + 1) = Y * 2 ^ s) : tlen V (n + 1) = n ∧ B32 ≤ 2 * V (n - 1) ∧ fval B32 V n = Y * 2 ^ s := by
  obtain ⟨k, rfl⟩ : ∃ k, n = k + 1 := ⟨n - 1, by omega⟩
  simp only [Nat.add_sub_cancel] at *
  have hYlo : B32 ^ k * E k ≤ Y := by rw [← hr.eq, fval_succ]; omega
  have hYhi : Y < B32 ^ k * (E k + 1) := by
    have := fval_lt k (fun i hi => hr.dig i (by omega))
    rw [← hr.eq, fval_succ, Nat.mul_add]; omega
  have hp : 0 < 2 ^ s := Nat.pow_pos (by decide)
  have hb : B32 ^ k * (E k + 1) * 2 ^ s ≤ B32 ^ k * B32 := by
    rw [Nat.mul_assoc]
    refine Nat.mul_le_mul_left _ ?_
    -- (E k + 1) 2^s is at most the base: both are multiples of 2^s
    have hs : s < 32 := by
      apply Classical.byContradiction
      intro h
      have h1 : 2 ^ 32 ≤ 2 ^ s := Nat.pow_le_pow_right (by decide) (by omega)
      have h2 : 0 < E k := by
        apply Nat.pos_of_ne_zero; intro e; rw [e] at hs2; unfold B32 at hs2; omega
      have h3 : 1 * 2 ^ s ≤ E k * 2 ^ s := Nat.mul_le_mul_right _ h2
      unfold B32 at hs1; omega
    have hB := shift_pow hs
    rw [← hB, Nat.mul_comm (2 ^ s)] at hs1
    have h1 : E k < 2 ^ (32 - s) := Nat.lt_of_mul_lt_mul_right hs1
    rw [← hB, Nat.mul_comm (2 ^ s)]
    exact Nat.mul_le_mul_right _ h1
  have hYs : Y * 2 ^ s < B32 ^ (k + 1) := by
    rw [Nat.pow_succ]
    exact Nat.lt_of_lt_of_le ((Nat.mul_lt_mul_right hp).2 hYhi) hb
  have hz : V (k + 1) = 0 := fval_high_zero (B := B32) (n := k + 1 + 1) (by decide) (by rw [hval]; exact hYs) (k + 1) (Nat.le_refl _) (by omega)
  have hv : fval B32 V (k + 1) = Y * 2 ^ s := by rw [← hval, fval_succ B32 V (k + 1), hz]; omega
  have hk : B32 ≤ 2 * V k := by
    apply Classical.byContradiction
    intro h
    have h1 := fval_lt k (fun i hi => hV i (by omega))
    have h2 : B32 ^ k * (2 * V k + 2) ≤ B32 ^ k * B32 := Nat.mul_le_mul_left _ (by unfold B32 at *; omega)
    have h3 : B32 ^ k * B32 ≤ B32 ^ k * (2 * (E k * 2 ^ s)) := Nat.mul_le_mul_left _ hs2
    have h4 : B32 ^ k * E k * 2 ^ s ≤ Y * 2 ^ s := Nat.mul_le_mul_right _ hYlo
    rw [fval_succ] at hv
    rw [Nat.mul_add, Nat.mul_left_comm] at h2
    rw [Nat.mul_left_comm, ← Nat.mul_assoc (B32 ^ k)] at h3
    omega
  refine ⟨?_, hk, hv⟩
  rw [tlen, if_pos hz]
  exact tlen_of_top (by simp only [Nat.add_sub_cancel]; unfold B32 at hk; omega)

/-- digit i of a row that is shifted to the right -/
def shrD (T : Nat → Nat) (s i : Nat) : Nat := T i / 2 ^ s + T (i + 1) % 2 ^ s * 2 ^ (32 - s)
/-- i digits have been shifted -/
structure ShrInv (w : World) (g1 g3 t s l : Nat) (T Q : Nat → Nat) (i : Nat) (wr : World) : Prop where
  arr : Arr wr g1 t (fun k => if k < i then shrD T s k else T k)
  q : Cells wr g3 l Q
  below : Below w.heap.size w wr

theorem div_pow_int (a s : Nat) : (a : Int) / 2 ^ s = ((a / 2 ^ s : Nat) : Int) := by simp
theorem shr_or {a b s : Nat} (ha : a < B32) (hb : b < B32) (hs : s < 32) :
    Value.int .u32 (bits .or .u32 ((a : Int) / 2 ^ s) (IntKind.u64.wrap (IntKind.u64.wrap (b : Int) * 2 ^ (32 - s)) % 4294967296)) = .int .u32 ((a / 2 ^ s + b % 2 ^ s * 2 ^ (32 - s) : Nat) : Int) := by
  have hp : 0 < 2 ^ s := Nat.pow_pos (by decide)
  have hB := shift_pow hs
  have h1 : a / 2 ^ s < 2 ^ (32 - s) := by
    rw [Nat.div_lt_iff_lt_mul hp, Nat.mul_comm, hB]; exact ha
  have h2 : 2 ^ (32 - s) ≤ 2 ^ 32 := Nat.pow_le_pow_right (by decide) (by omega)
  have h3 : b * 2 ^ (32 - s) < 4294967296 * 4294967296 := Nat.lt_of_lt_of_le ((Nat.mul_lt_mul_right (Nat.pow_pos (by decide))).2 hb) (Nat.mul_le_mul_left _ h2)
  have e1 : ((b * 2 ^ (32 - s) : Nat) : Int) = (b : Int) * 2 ^ (32 - s) := by simp
  have e2 : (b : Int) % 18446744073709551616 = b := by unfold B32 at hb; omega
  have e3 : IntKind.u64.wrap (IntKind.u64.wrap (b : Int) * 2 ^ (32 - s)) % 4294967296 = ((b % 2 ^ s * 2 ^ (32 - s) : Nat) : Int) := by
    rw [wrap_u64', wrap_u64', e2, ← e1]
    have e4 : b * 2 ^ (32 - s) % B32 = b % 2 ^ s * 2 ^ (32 - s) := by rw [← hB, Nat.mul_mod_mul_right]
    rw [← e4]
    unfold B32
    omega
  rw [e3, div_pow_int, u32_or_nat _ _ (by omega) (by rw [← Nat.mul_mod_mul_right, hB]; exact Nat.mod_lt _ (by decide)), Nat.or_comm, nat_join (32 - s) _ _ (Nat.mul_mod_left _ _) h1, Nat.add_comm]

theorem ShrInv.put {w wr : World} {g1 g3 t s l i : Nat} {T Q : Nat → Nat} (h : ShrInv w g1 g3 t s l T Q i wr) (hi : i < t) (h13 : g1 ≠ g3) (hw : w.heap.size ≤ g1) {z : Value} (hz : z = .int .u32 (shrD T s i : Nat)) :
    ShrInv w g1 g3 t s l T Q (i + 1) (wr.setCell ⟨g1, i, none⟩ z) := by
  have h1 := h.arr.set i (shrD T s i) hi hz
  refine ⟨⟨fun k hk => ?_, h1.free⟩, fun k hk => ?_, h.below.setCell hw _⟩
  · rw [h1.cell k hk]
    congr 3
    by_cases e : k = i
    · subst e; rw [putD_same, if_pos (by omega)]
    · rw [putD_other _ _ _ _ e]
      by_cases e2 : k < i
      · rw [if_pos e2, if_pos (by omega)]
      · rw [if_neg e2, if_neg (by omega)]
  · rw [World.cell?_setCell_other wr ⟨g1, i, none⟩ ⟨g3, k, none⟩ _ (fun e => by injection e with e1; exact h13 e1)]
    exact h.q k hk
/-- the first of two stores to one cell -/
theorem ShrInv.pre {w wr : World} {g1 g3 t s l i : Nat} {T Q : Nat → Nat} (h : ShrInv w g1 g3 t s l T Q i wr) (hi : i < t) (h13 : g1 ≠ g3) (hw : w.heap.size ≤ g1) {z y : Value} (hz : z = .int .u32 (shrD T s i : Nat)) (x : Nat) (hy : y = .int .u32 (x : Int)) :
    ShrInv w g1 g3 t s l T Q (i + 1) ((wr.setCell ⟨g1, i, none⟩ y).setCell ⟨g1, i, none⟩ z) := by
  have h1 := (h.arr.set i x hi hy).set i (shrD T s i) hi hz
  refine ⟨⟨fun k hk => ?_, h1.free⟩, fun k hk => ?_, (h.below.setCell hw _).setCell hw _⟩
  · rw [h1.cell k hk]
    congr 3
    by_cases e : k = i
    · subst e; rw [putD_same, if_pos (by omega)]
    · rw [putD_other _ _ _ _ e, putD_other _ _ _ _ e]
      by_cases e2 : k < i
      · rw [if_pos e2, if_pos (by omega)]
      · rw [if_neg e2, if_neg (by omega)]
  · rw [World.cell?_setCell_other (wr.setCell ⟨g1, i, none⟩ y) ⟨g1, i, none⟩ ⟨g3, k, none⟩ _ (fun e => by injection e with e1; exact h13 e1),
      World.cell?_setCell_other wr ⟨g1, i, none⟩ ⟨g3, k, none⟩ _ (fun e => by injection e with e1; exact h13 e1)]
    exact h.q k hk
theorem ShrInv.drew {w wr : World} {g1 g3 t s l i : Nat} {T Q : Nat → Nat} (h : ShrInv w g1 g3 t s l T Q i wr) : ShrInv w g1 g3 t s l T Q i wr.drew :=
  ⟨h.arr.drew, h.q, h.below.drew⟩

set_option maxHeartbeats 4000000 in
set_option maxRecDepth 100000 in
theorem div_long {X Y m n g g' cm cn : Nat} {D E : Nat → Nat} {w : World} (hn : 2 ≤ n) (hm : m ≤ 1000000) (r1 : Rep B32 D m X) (r2 : Rep B32 E n Y)
    (m1 : m ≤ cm) (m2 : cm ≤ 9223372036854775807) (n1 : n ≤ cn) (n2 : cn ≤ 9223372036854775807) (c1 : Cells w g m D) (c2 : Cells w g' n E) (h : Y ≤ X) :
    Calls Tryz.prog 106 #[.slice (some ⟨g, 0, none⟩) m cm, .slice (some ⟨g', 0, none⟩) n cn] w (RetNN B32 (X / Y) (X % Y) w) := by
  obtain ⟨c, hc0, hc1, hcmp⟩ := cmp_ge (w := w) ⟨m, D, r1, .inr ⟨g, cm, rfl, m1, m2, c1⟩⟩ ⟨n, E, r2, .inr ⟨g', cn, rfl, n1, n2, c2⟩⟩ h
  have hnm : n ≤ m := r2.len_mono (by decide) r1 h
  have hmk := run_makeD (t := 78) Tryz.underlying78 ((m : Int) + 1 - (n : Int)) (m + 1 - n) (by omega) (by omega)
  have hcY := c2 (n - 1) (by omega)
  have hE0 : E (n - 1) ≠ 0 := r2.top (by omega)
  have hE1 : E (n - 1) < B32 := r2.dig _ (by omega)
  have hb0 : ((n : Int) == 1) = false := by rw [beq_eq_false_iff_ne]; omega
  have hcz : decide (c < 0) = false := by simp; omega
  have HCMP := Lib.hid hcmp; clear hcmp
  go_enter Tryz.func106, Tryz.ntmps106
  go_wp2_with fail
  refine HCMP.out.mono ?_
  rintro e W ⟨rfl, q, hq⟩
  have hbW : Below w.heap.size w W := by rw [hq]; exact below_drewN' _ _
  have hsW : w.heap.size = W.heap.size := by rw [hq]; rfl
  have cW1 := c1.later hbW (Nat.le_refl _)
  have cW2 := c2.later hbW (Nat.le_refl _)
  have hcYW := cW2 (n - 1) (by omega)
  have HS := Lib.hid hsW
  clear hq HCMP hcY c1 c2 hsW
  go_wp2_with fail
  refine (lz32_any _ hE1 hE0 _).mono ?_
  rintro e w' ⟨s, rfl, hs, hs1, hs2, rfl⟩
  go_wp2_with fail
  refine (shifted_core _ g m _ s D _ (by omega) hs (fun _ => rfl) r1.dig cW1).mono ?_
  rintro e w1 ⟨U, rfl, hU, hUd, hUv, hb1⟩
  have cW2' := cW2.later hb1 (Nat.le_refl _)
  go_wp2_with fail
  refine (shifted_core _ g' n _ s E _ (by omega) hs (fun _ => rfl) r2.dig cW2').mono ?_
  rintro e w2 ⟨V, rfl, hV, hVd, hVv, hb2⟩
  go_wp2_with fail
  obtain ⟨ht, hhalf, hVval⟩ := shifted_len hn r2 hs1 hs2 hVd (by rw [hVv, r2.eq])
  refine (trim_pos w1.heap.size (n + 1) (n + 1) V w2 (Nat.le_refl _) (by omega) hV.cell).mono ?_
  rintro e w' ⟨he, rfl⟩
  rw [ht] at he
  subst he
  have hUv2 : fval B32 U (m + 1) = X * 2 ^ s := by rw [hUv, r1.eq]
  have s1 : W.heap.size < w1.heap.size := World.block_lt_of_cell? w1 _ (hU.cell 0 (by omega))
  have s2 : w1.heap.size < w2.heap.size := World.block_lt_of_cell? w2 _ (hV.cell 0 (by omega))
  have s0 := hbW.size
  have hb2w : Below w.heap.size w w2 := hbW.trans ((hb1.mono s0).trans (hb2.mono (by omega)))
  have hb3w : Below w.heap.size w (w2.alloc (.cells (madeCells #[.int .u32 0] (m + 1 - n)) 135)) := hb2w.alloc (by omega) _
  have hS : DivInv w W.heap.size w1.heap.size w2.heap.size m n U V (m + 1 - n) (fun _ => 0) U (w2.alloc (.cells (madeCells #[.int .u32 0] (m + 1 - n)) 135)) :=
    DivInv.start (Arr.made _ _ _) ((hU.later hb2 s1).later (below_alloc _ _) (by omega)) (fun i hi => (hV.later (below_alloc _ _) s2).cell i (by omega)) hb3w (by simp)
      hUd (hi_top_lt hn hnm hs hUd r1.lt hUv2 hhalf)
  have HSt := Lib.hid hS
  have HV := Lib.hid hVval
  have HT := Lib.hid hUv2
  clear cW1 cW2 cW2' hcYW hU hV hb1 hb2 hb2w hb3w hS hVval hUv hUv2 hVv ht
  go_wp2_with fail
  go_loopw [13] (fun iv wr => ∃ (k : Nat) (Q T : Nat → Nat), k ≤ m + 1 - n ∧ iv = .int .i64 ((k : Int) - 1) ∧ DivInv w W.heap.size w1.heap.size w2.heap.size m n U V k Q T wr) (fun iv _ => (intOf iv + 1).toNat)
  case atStart => exact ⟨m + 1 - n, _, U, Nat.le_refl _, by congr 1; omega, HSt.out⟩
  case round =>
    obtain ⟨k, Q, T, hk, rfl, hI⟩ := hrel
    by_cases hlt : 0 < k
    · obtain ⟨j, rfl⟩ : ∃ j, k = j + 1 := ⟨k - 1, by omega⟩
      have e1 : (((j + 1 : Nat) : Int) - 1) = (j : Int) := by omega
      rw [e1]
      clear e1
      have hVd' : ∀ i, i < n → V i < B32 := fun i hi => hVd i (by omega)
      have hdiv := (hI.div hk hn hVd' hhalf).1
      have hq0 := hI.q.cell j (by omega)
      have hqf := hI.q.free j
      go_wp2_with fail
      rw [show j + n + 1 - j = n + 1 from by omega]
      refine (digitOf_core W.heap.size j n (m + 1 - j) (n + 1) w1.heap.size (fun i => T (j + i)) V wr (by omega) (by omega) hdiv ⟨fun i hi => hI.u.cell (j + i) (by omega), hI.u.free⟩ hI.v).mono ?_
      rintro e w3 ⟨U', rfl, hA', hUd', hval', hup⟩
      have hq1 : w3.cell? ⟨w2.heap.size, j, none⟩ = some (.int .u32 (Q j)) := hup.other (g' := w2.heap.size) (n := m + 1 - n) (D := Q) (by omega) hI.q.cell j (by omega)
      have hqf1 : w3.frozen? ⟨w2.heap.size, j, none⟩ = false := by rw [hup.free]; exact hI.q.free j
      have hst : Hid (∀ z : Value, z = .int .u32 ((fval B32 (fun i => T (j + i)) (n + 1) / fval B32 V n : Nat) : Int) → ∃ T', DivInv w W.heap.size w1.heap.size w2.heap.size m n U V j (putD Q j (fval B32 (fun i => T (j + i)) (n + 1) / fval B32 V n)) T' (w3.setCell ⟨w2.heap.size, j, none⟩ z)) :=
        fun z hz => hI.step hk hn hVd' hhalf (by omega) (by omega) (by omega) s0 (by omega) hA'.cell hUd' hval' hup hz
      clear hI hA' hUd' hval' hup hdiv hVd' hq0 hqf
      go_wp2_with fail
      go_roundw
      case rel =>
        obtain ⟨T', hT'⟩ := hst.out _ rfl
        exact ⟨j, _, T', by omega, rfl, hT'⟩
      case measure => simp [intOf]
    · obtain rfl : k = 0 := by omega
      clear hlt
      have hE := hI.eq
      have hR := hI.rest
      rw [hi_zero, hi_zero, hi_zero, HT.out, HV.out] at hE
      rw [hi_zero, HV.out] at hR
      have hVn := fval_lt n (fun i hi => hVd i (by omega))
      have hz := fval_high_zero (B := B32) (k := n) (by decide) (Nat.lt_trans hR (by rw [HV.out] at hVn; exact hVn))
      have hTn : fval B32 T (m + 1) = fval B32 T n := fval_zeros (by omega) hz
      have hQR := shift_div (Nat.pow_pos (by decide)) hE hR
      rw [hTn] at hQR
      have htr := Rep.trim (B := B32) (D := T) (n := n) (fun i hi => hI.udig i (by omega))
      obtain ⟨t, htl⟩ : ∃ t, t = tlen T n := ⟨_, rfl⟩
      have htn : t ≤ n := by rw [htl]; exact tlen_le _ _
      rw [← htl] at htr
      have hTt : fval B32 (cutD T t) t = X % Y * 2 ^ s := by rw [cutD_val _ _ (Nat.le_refl _), htr.eq, hQR.2]
      have hTd : ∀ i, cutD T t i < B32 := fun i => cutD_lt (by decide) htr.dig i
      have hQ1 := hI.q.cell
      have hQd : ∀ i, i < m + 1 - n → Q i < B32 := fun i hi => hI.qdig i (Nat.zero_le _) hi
      have hA1 : Arr wr W.heap.size t (cutD T t) := ⟨fun i hi => by rw [hI.u.cell i (by omega)]; simp [cutD, hi], hI.u.free⟩
      have hb1 := hI.below
      have HF := Lib.hid hQR
      have HTT := Lib.hid hTt
      have HTL := Lib.hid htl
      have hUc := hI.u.cell
      clear hI hE hR hVn hz hTn hQR htr hTt htl
      go_wp2_with fail
      refine (trim_pos W.heap.size n (m + 1) T wr (by omega) (by omega) (fun i hi => hUc i (by omega))).mono ?_
      rintro e w' ⟨he, rfl⟩
      rw [← HTL.out] at he
      subst he
      clear hUc HTL
      go_wp2_with fail
      go_loopw [84] (fun iv wx => ∃ i : Nat, i ≤ t ∧ iv = .int .i64 (i : Nat) ∧ ShrInv w W.heap.size w2.heap.size t s (m + 1 - n) (cutD T t) Q i wx) (fun iv _ => t - (intOf iv).toNat)
      case atStart => exact ⟨0, Nat.zero_le _, rfl, ⟨hA1, hQ1, hb1⟩⟩
      case round =>
        obtain ⟨i, hi, rfl, hI⟩ := hrel
        by_cases hlt : i < t
        · by_cases hl2 : i + 1 < t
          · have hci : wr.cell? ⟨W.heap.size, i, none⟩ = some (.int .u32 (cutD T t i : Nat)) := by have := hI.arr.cell i hlt; simpa using this
            have hci2 : wr.cell? ⟨W.heap.size, i + 1, none⟩ = some (.int .u32 (cutD T t (i + 1) : Nat)) := by have := hI.arr.cell (i + 1) hl2; rw [if_neg (by omega)] at this; exact this
            have hfi := hI.arr.free i
            have hd1 := hTd i
            have hd2 := hTd (i + 1)
            have hst : Hid (∀ z y : Value, z = .int .u32 (shrD (cutD T t) s i : Nat) → y = .int .u32 ((cutD T t i / 2 ^ s : Nat) : Int) →
                ShrInv w W.heap.size w2.heap.size t s (m + 1 - n) (cutD T t) Q (i + 1) ((wr.setCell ⟨W.heap.size, i, none⟩ y).setCell ⟨W.heap.size, i, none⟩ z).drew) :=
              fun z y hz hy => (hI.pre hlt (by omega) s0 hz _ hy).drew
            clear hI hA1 hQ1 hb1
            go_wp2_with fail
            go_region
            all_goals go_wp2
            all_goals (refine ⟨⟨i + 1, by omega, by go_num, hst.out _ _ (shr_or hd1 hd2 hs) (by rw [div_pow_int])⟩, by simp [intOf]; omega⟩)
          · have hci : wr.cell? ⟨W.heap.size, i, none⟩ = some (.int .u32 (cutD T t i : Nat)) := by have := hI.arr.cell i hlt; simpa using this
            have hfi := hI.arr.free i
            have hsh : Hid (shrD (cutD T t) s i = cutD T t i / 2 ^ s) := by
              show shrD (cutD T t) s i = cutD T t i / 2 ^ s
              unfold shrD
              rw [show cutD T t (i + 1) = 0 from by simp [cutD]; omega]
              simp
            have hst : Hid (∀ z : Value, z = .int .u32 (shrD (cutD T t) s i : Nat) → ShrInv w W.heap.size w2.heap.size t s (m + 1 - n) (cutD T t) Q (i + 1) (wr.setCell ⟨W.heap.size, i, none⟩ z)) :=
              fun z hz => hI.put hlt (by omega) s0 hz
            clear hI hA1 hQ1 hb1
            go_wp2_with fail
            go_roundw
            case rel => exact ⟨i + 1, by omega, by go_num, hst.out _ (by rw [hsh.out, div_pow_int])⟩
            case measure => simp [intOf]; omega
        · obtain rfl : i = t := by omega
          have hR : ∀ k, k < i → shrD (cutD T i) s k = cutD T i k / 2 ^ s + cutD T i (k + 1) % 2 ^ s * 2 ^ (32 - s) := fun k hk => rfl
          have hval : Hid (fval B32 (shrD (cutD T i) s) i = X % Y) := shr_val hs hR (by simp [cutD]) HTT.out
          have hRd : ∀ k, k < i → shrD (cutD T i) s k < B32 := fun k hk => shr_lt hs (hTd k)
          have hA2 : Cells wr W.heap.size i (shrD (cutD T i) s) := fun k hk => by have := hI.arr.cell k hk; simp only [hk, if_true] at this; exact this
          have hq2 := hI.q
          have hbb := hI.below
          clear hI hA1 hQ1 hb1 hR
          go_wp2_with fail
          refine (trim_any (n := m + 1 - n) (D := Q) (.inr ⟨_, _, rfl, Nat.le_refl _, by omega, hq2⟩)).mono ?_
          rintro e w' h
          obtain ⟨v, rfl, hv, rfl⟩ := h.num hQd
          rw [HF.out.1] at hv
          go_wp2_with fail
          refine (trim_any (n := i) (D := shrD (cutD T i) s) (.inr ⟨_, m + 1, rfl, by omega, by omega, hA2⟩)).mono ?_
          rintro e w' h
          obtain ⟨u, rfl, hu, rfl⟩ := h.num hRd
          rw [hval.out] at hu
          clear hA2 hq2
          go_wp2
          go_ret2
          exact ⟨_, _, rfl, hv, hu, hbb⟩

/-- div, for a divisor that is not 0 -/
theorem div_any {X Y : Nat} {x y : Value} {w : World} (hx : IsN B32 w x X) (hy : IsN B32 w y Y) (sx : Sm X) (h0 : Y ≠ 0) :
    Calls Tryz.prog 106 #[x, y] w (RetNN B32 (X / Y) (X % Y) w) := by
  by_cases h : X < Y
  · exact div_lt hx hy h
  · have h' : Y ≤ X := by omega
    obtain ⟨n, E, r2, s2⟩ := id hy
    rcases s2 with ⟨_, hn⟩ | ⟨g', cn, rfl, n1, n2, c2⟩
    · subst hn; exact absurd ((r2.zero_iff (by decide)).1 rfl) h0
    · have hn0 : n ≠ 0 := fun e => h0 ((r2.zero_iff (by decide)).1 e)
      by_cases hn1 : n = 1
      · subst hn1
        exact div_one hx sx r2 c2 n1 n2 h'
      · obtain ⟨m, D, r1, s1⟩ := hx
        have hnm : n ≤ m := r2.len_mono (by decide) r1 h'
        rcases s1 with ⟨_, hm⟩ | ⟨g, cm, rfl, m1, m2, c1⟩
        · omega
        · exact div_long (by omega) (sx.len r1) r1 r2 m1 m2 n1 n2 c1 c2 h'
end Go.Proofs.YtemhidlaaommaaaGreatDoor
/- Contracts: gcd, length. -/
namespace Go.Proofs.YtemhidlaaommaaaGreatDoor
open Go.RowKit

set_option maxHeartbeats 800000 in
theorem gcd_any {X Y : Nat} {x y : Value} {w : World} (hx : IsN B32 w x X) (hy : IsN B32 w y Y) (sx : Sm X) (sy : Sm Y) :
    Calls Tryz.prog 81 #[x, y] w (RetN B32 (Nat.gcd X Y) w) := by
  go_enter Tryz.func81, Tryz.ntmps81
  go_wp2
  go_loopg [0, 1] Y (fun k p q wr => ∃ a : Nat, IsN B32 wr p a ∧ IsN B32 wr q k ∧ Sm a ∧ Sm k ∧ Hid (Nat.gcd a k = Nat.gcd X Y) ∧ Below w.heap.size w wr)
  case atStart => exact ⟨X, hx, hy, sx, sy, rfl, Below.refl _ _⟩
  case round =>
    rename_i p q
    obtain ⟨a, hp, hq, sa, sk, hg, hb⟩ := hrel
    have hk := hq
    obtain ⟨n, D, r, s⟩ := hk
    obtain ⟨ad, gb, cap, rfl, -, -, -, -⟩ := s.shape
    have hz := r.zero_iff (by decide)
    by_cases h0 : gk = 0
    · subst h0
      obtain rfl : n = 0 := hz.2 rfl
      have hgv : Hid (a = Nat.gcd X Y) := by rw [← hg.out, Nat.gcd_zero_right]; rfl
      clear hz r s
      go_wp2
      go_ret
      exact ⟨_, rfl, by rw [← hgv.out]; exact hp, hb⟩
    · have hn : 0 < n := by omega
      have hlt : a % gk < gk := Nat.mod_lt _ (by omega)
      have hgv : Hid (Nat.gcd gk (a % gk) = Nat.gcd X Y) := by
        show Nat.gcd gk (a % gk) = _
        rw [← hg.out, Nat.gcd_comm a gk, Nat.gcd_rec gk a, Nat.gcd_comm]
      have sr : Sm (a % gk) := sk.mono (Nat.le_of_lt hlt)
      have HLT := Lib.hid hlt
      clear hz r s hlt
      have HD := Lib.hid (div_any hp hq sa h0)
      clear hp
      go_wp2_with fail
      refine HD.out.mono ?_
      rintro e w' ⟨v, u, rfl, hv, hu, hb'⟩
      clear HD
      go_wp2
      go_roundg (a % gk)
      case measure => exact HLT.out
      case rel => exact ⟨gk, hq.later hb', hu, sk, sr, hgv, hb.trans (hb'.mono hb.size)⟩

theorem length_any {X : Nat} {x : Value} {w : World} (hx : IsN B32 w x X) (sx : Sm X) :
    Calls Tryz.prog 111 #[x] w fun e w' => e = .returned (.int .i64 (blen X)) ∧ w = w' := by
  obtain ⟨n, D, r, s⟩ := hx
  have hl := sx.len r
  rcases s with ⟨rfl, rfl⟩ | ⟨g, cap, rfl, h1, h2, h3⟩
  · have hX : X = 0 := (r.zero_iff (by decide)).1 rfl
    subst hX
    clear r
    go_enter Tryz.func111, Tryz.ntmps111
    go_wp2
    go_ret
    exact ⟨rfl, rfl⟩
  · by_cases h0 : n = 0
    · subst h0
      have hX : X = 0 := (r.zero_iff (by decide)).1 rfl
      subst hX
      clear r
      go_enter Tryz.func111, Tryz.ntmps111
      go_wp2
      go_ret
      exact ⟨rfl, rfl⟩
    · obtain ⟨m, rfl⟩ : ∃ m, n = m + 1 := ⟨n - 1, by omega⟩
      have hc := h3 m (by omega)
      have hD := r.dig m (by omega)
      have ht := r.top (by omega)
      simp only [Nat.add_sub_cancel] at ht
      have hb : (((m + 1 : Nat) : Int) == 0) = false := by rw [beq_eq_false_iff_ne]; omega
      have hlen : Hid (blen X = 32 * m + blen (D m)) := by
        show blen X = 32 * m + blen (D m)
        have e : ∀ k, B32 ^ k = 2 ^ (32 * k) := fun k => by rw [Nat.pow_mul]
        have hlo := fval_lt m (fun i hi => r.dig i (by omega))
        have hv := r.eq
        rw [fval_succ] at hv
        have b1 := @blen_lt (D m)
        have b2 := blen_ge ht
        have b3 : 0 < blen (D m) := by unfold blen; rw [if_neg ht]; omega
        refine blen_unique (by omega) ?_ ?_
        · rw [show 32 * m + blen (D m) - 1 = 32 * m + (blen (D m) - 1) from by omega, Nat.pow_add, ← e, ← hv]
          have := Nat.mul_le_mul_left (B32 ^ m) b2
          omega
        · rw [Nat.pow_add, ← e, ← hv]
          have := Nat.mul_le_mul_left (B32 ^ m) (show D m + 1 ≤ 2 ^ blen (D m) from b1)
          rw [Nat.mul_add] at this
          omega
      have hbl := blen_le (k := 32) (show D m < 2 ^ 32 from hD)
      clear r h3
      go_enter Tryz.func111, Tryz.ntmps111
      go_wp2_with (go_at_call 148; refine (len32_any _ hD _).mono ?_; rintro e w' ⟨rfl, rfl⟩)
      go_ret
      exact ⟨ret_int (by rw [hlen.out]; simp), rfl⟩
end Go.Proofs.YtemhidlaaommaaaGreatDoor
