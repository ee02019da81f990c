/- Lemmas and contracts, each under its own condition: Contract: Parse. Contracts: short. Values in the program; contracts: plain, missing, gcd, truth. Contracts: gcd of int64, right. -/
import Derived.Handy
import Derived.Test.YtpdhlgkcjakcgaaGreatDoorT1
/- Contract: Parse. -/
namespace Go.Proofs.YtpdhlgkcjakcgaaGreatDoor
open Go.RowKit

/-- the package-level variable MaxLen lies where it lies -/
def Ml (w : World) : Prop := ∃ m, w.cell? ⟨1, 0, none⟩ = some (.int .i64 m)
theorem Ml.later {w w' : World} (h : Ml w) (hb : Below w.heap.size w w') : Ml w' :=
  let ⟨m, h1⟩ := h; ⟨m, (hb.cell (p := ⟨1, 0, none⟩) (World.block_lt_of_cell? w _ h1)).trans h1⟩

theorem parseD_sm {l : List UInt8} {X : Nat} (h : parseD l = some X) (hl : l.length ≤ 100000) : Sm X := by
  unfold parseD at h
  split at h
  · rename_i hc
    rw [← Option.some.inj h]
    exact dval_sm hc.2.2 hl
  · exact absurd h (by simp)
theorem prC_len (l : List UInt8) : (prC l).1.length ≤ l.length ∧ (prC l).2.1.length ≤ l.length := by
  have h1 : (Lib.trimPrefix l [45]).length ≤ l.length := by
    unfold Lib.trimPrefix; split <;> simp
  have h2 : ∀ a : List UInt8, (Lib.cut a [47]).1.length ≤ a.length ∧ (Lib.cut a [47]).2.1.length ≤ a.length := by
    intro a; unfold Lib.cut; split
    · simp only [List.length_take, List.length_drop]; omega
    · simp
  have := h2 (Lib.trimPrefix l [45])
  exact ⟨Nat.le_trans this.1 h1, Nat.le_trans this.2 h1⟩

/-- what Parse gives for a string that is not too long -/
def RetP (o : Option Rat) (w : World) (e : Ending) (w' : World) : Prop :=
  match o with
  | some q => ∃ v, e = .returned (.tuple #[v, .int .i64 0]) ∧ IsR w' v q ∧ Below w.heap.size w w'
  | none => e = .returned (.tuple #[.pointer none, .int .i64 7]) ∧ Below w.heap.size w w'

def parseO (f n : Bool) : Option Nat → Option Nat → Option Rat
  | some X, some Y => if Y = 0 ∨ (f = true ∧ Y = 1) ∨ (n = true ∧ X = 0) ∨ Nat.gcd X Y ≠ 1 then none else some (mkRat (sgn n X) Y)
  | _, _ => none
theorem parseQ_O (l : List UInt8) : parseQ l = parseO (prC l).2.2 (prN l) (parseD (prC l).1) (parseD (prD l)) := by
  unfold parseQ parseO; rfl
theorem parseO_none (f n : Bool) (o : Option Nat) : parseO f n none o = none := by cases o <;> rfl
theorem parseO_none' (f n : Bool) (o : Option Nat) : parseO f n o none = none := by cases o <;> rfl

end Go.Proofs.YtpdhlgkcjakcgaaGreatDoor
/- Contracts: short. -/
namespace Go.Proofs.YtpdhlgkcjakcgaaGreatDoor
open Go.RowKit

/-- 2 to the 40th -/
abbrev T40 : Nat := 1099511627776

/-- X with at most two digits -/
theorem short_len {X n : Nat} {D : Nat → Nat} (r : Rep B32 D n X) (h : X ≤ T40) : n ≤ 2 :=
  r.len_le (by decide) (Nat.lt_of_le_of_lt h (by decide))
end Go.Proofs.YtpdhlgkcjakcgaaGreatDoor
/- Values in the program; contracts: plain, missing, gcd, truth. -/
namespace Go.Proofs.YtpdhlgkcjakcgaaGreatDoor
open Go.RowKit

/-- a value: its kind, its two numbers, its string -/
structure Va where
  kind : Int
  num : Int
  den : Int
  str : List UInt8
deriving DecidableEq
/-- the value in the program -/
abbrev Va.v (x : Va) : Value := .agg #[.int .i64 x.kind, .int .i64 x.num, .int .i64 x.den, .string ⟨x.str.toArray⟩]

theorem plain_any (x : Va) (w : World) :
    Calls Tryz.prog 165 #[x.v] w fun e w' => e = .returned (.bool (decide (x.den = 0 ∧ x.str = []))) ∧ Below w.heap.size w w' := by
  obtain ⟨k, n, d, s⟩ := x
  go_enter Tryz.func165, Tryz.ntmps165
  by_cases h : d = 0
  · subst h
    go_wp2
    go_ret
    refine ⟨ret_bool ?_, below_alloc _ _⟩
    cases s <;> simp
  · go_wp2
    go_ret
    refine ⟨ret_bool ?_, below_alloc _ _⟩
    simp [h]

theorem right1_any (r : Int) (w : World) :
    Calls Tryz.prog 167 #[.int .i32 r] w fun e w' => e = .returned (.bool (decide (r < 32 ∨ 126 < r))) ∧ w' = w := by
  go_enter Tryz.func167, Tryz.ntmps167
  by_cases h : r < 32
  · have h1 : decide (r < 32) = true := by simp [h]
    go_wp2
    go_ret
    exact ⟨ret_bool (by simp [h]), rfl⟩
  · have h1 : decide (r < 32) = false := by simp [h]
    go_wp2
    go_ret
    exact ⟨ret_bool (by simp), rfl⟩
end Go.Proofs.YtpdhlgkcjakcgaaGreatDoor
/- Contracts: gcd of int64, right. -/
namespace Go.Proofs.YtpdhlgkcjakcgaaGreatDoor
open Go.RowKit

theorem igcd_any (a b : Nat) (ha : a ≤ T40) (hb : b ≤ T40) (w : World) :
    Calls Tryz.prog 166 #[.int .i64 a, .int .i64 b] w (RetQ (.int .i64 (Nat.gcd a b)) w) := by
  go_enter Tryz.func166, Tryz.ntmps166
  go_wp2
  go_loopw [0, 1] (fun x y wr => ∃ m n : Nat, x = .int .i64 m ∧ y = .int .i64 n ∧ m ≤ T40 ∧ n ≤ T40 ∧ Hid (Nat.gcd m n = Nat.gcd a b) ∧ Hid (∃ k, wr = w.drewN k)) (fun _ y _ => (intOf y).toNat)
  case atStart => exact ⟨a, b, rfl, rfl, ha, hb, rfl, 0, rfl⟩
  case round =>
    obtain ⟨m, n, rfl, rfl, hm, hn, hg, hw⟩ := hrel
    by_cases h0 : n = 0
    · subst h0
      go_wp2
      go_ret
      refine ⟨ret_int ?_, hw.out⟩
      rw [← hg.out, Nat.gcd_zero_right]
    · have hz : ((n : Int) == 0) = false := by rw [beq_eq_false_iff_ne]; omega
      have hz2 : (n : Int) ≠ 0 := by omega
      go_wp2
      go_quiet (fail)
      go_wp2
      have hlt : m % n < n := Nat.mod_lt _ (by omega)
      refine ⟨⟨n, m % n, rfl, rfl, hn, by omega, ?_, ?_⟩, ?_⟩
      · show Nat.gcd n (m % n) = Nat.gcd a b
        rw [Nat.gcd_comm, ← Nat.gcd_rec, Nat.gcd_comm]; exact hg.out
      · obtain ⟨k, rfl⟩ := hw.out
        exact ⟨k + nq, by rw [World.drewN_drewN]⟩
      · show ((m : Int) % (n : Int)).toNat < ((n : Nat) : Int).toNat
        rw [← Int.natCast_emod, Int.toNat_natCast, Int.toNat_natCast]; exact hlt
end Go.Proofs.YtpdhlgkcjakcgaaGreatDoor
