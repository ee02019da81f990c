/- Lemmas and contracts, each under its own condition: Contract: Parse. Contracts: short. Values in the program; contracts: plain, missing, gcd, truth. Contracts: gcd of int64, right. -/
import Derived.Handy
import Derived.Test.YtebpfbgaafchjaaGreatDoorT1
/- Contract: Parse. -/
namespace Go.Proofs.YtebpfbgaafchjaaGreatDoor
open Go.RowKit

/-- the package-level variable MaxLen lies where it lies -/
def Ml (w : World) : Prop := ∃ m, w.cell? ⟨1, 0, none⟩ = some (.int .i64 m)
theorem Ml.later {w w' : World} (h : Ml w) (hb : Below w.heap.size w w') : Ml w' :=
 let ⟨m, h1⟩ := h; ⟨m, (hb.cell (p := ⟨1, 0, none⟩) (World.block_lt_of_cell? w _ h1)).trans h1⟩

end Go.Proofs.YtebpfbgaafchjaaGreatDoor
/- Contracts: short. -/
namespace Go.Proofs.YtebpfbgaafchjaaGreatDoor
open Go.RowKit

/-- 2 to the 40th -/
abbrev T40 : Nat := 1099511627776

end Go.Proofs.YtebpfbgaafchjaaGreatDoor
/- Values in the program; contracts: plain, missing, gcd, truth. -/
namespace Go.Proofs.YtebpfbgaafchjaaGreatDoor
open Go.RowKit

/-- a value: its kind, its two numbers, its string -/
structure Va where
 kind : Int
 num : Int
 den : Int
 str : List UInt8
deriving DecidableEq
/-- the value in the program -/
abbrev Va.v (x : Va) : Value := .agg #[.int .i64 x.kind, .int .i64 x.num, .int .i64 x.den, .string ⟨x.str.toArray⟩]

theorem plain_any (x : Va) (w : World) :
  Calls Tryz.prog 186 #[x.v] w fun e w' => e = .returned (.bool (decide (x.den = 0 ∧ x.str = []))) ∧ Below w.heap.size w w' := by
 obtain ⟨k, n, d, s⟩ := x
 go_enter Tryz.func186, Tryz.ntmps186
 by_cases h : d = 0
 ·subst h
  go_wp2
  go_ret
  refine ⟨ret_bool ?_, below_alloc _ _⟩
  cases s <;> simp
 ·go_wp2
  go_ret
  refine ⟨ret_bool ?_, below_alloc _ _⟩
  simp [h]

theorem right1_any (r : Int) (w : World) :
  Calls Tryz.prog 188 #[.int .i32 r] w fun e w' => e = .returned (.bool (decide (r < 32 ∨ 126 < r))) ∧ w' = w := by
 go_enter Tryz.func188, Tryz.ntmps188
 by_cases h : r < 32
 ·have h1 : decide (r < 32) = true := by simp [h]
  go_wp2
  go_ret
  exact ⟨ret_bool (by simp [h]), rfl⟩
 ·have h1 : decide (r < 32) = false := by simp [h]
  go_wp2
  go_ret
  exact ⟨ret_bool (by simp), rfl⟩
end Go.Proofs.YtebpfbgaafchjaaGreatDoor
/- Contracts: gcd of int64, right. -/
namespace Go.Proofs.YtebpfbgaafchjaaGreatDoor
open Go.RowKit

theorem igcd_any (a b : Nat) (ha : a ≤ T40) (hb : b ≤ T40) (w : World) :
  Calls Tryz.prog 187 #[.int .i64 a, .int .i64 b] w (RetQ (.int .i64 (Nat.gcd a b)) w) := by
 go_enter Tryz.func187, Tryz.ntmps187
 go_wp2
 go_loopw [0, 1] (fun x y wr => ∃ m n : Nat, x = .int .i64 m ∧ y = .int .i64 n ∧ m ≤ T40 ∧ n ≤ T40 ∧ Hid (Nat.gcd m n = Nat.gcd a b) ∧ Hid (∃ k, wr = w.drewN k)) (fun _ y _ => (intOf y).toNat)
 case atStart => exact ⟨a, b, rfl, rfl, ha, hb, rfl, 0, rfl⟩
 case round =>
  obtain ⟨m, n, rfl, rfl, hm, hn, hg, hw⟩ := hrel
  by_cases h0 : n = 0
  ·subst h0
   go_wp2
   go_ret
   refine ⟨ret_int ?_, hw.out⟩
   rw [← hg.out, Nat.gcd_zero_right]
  ·have hz : ((n : Int) == 0) = false := by rw [beq_eq_false_iff_ne]; omega
   have hz2 : (n : Int) ≠ 0 := by omega
   go_wp2
   go_quiet (fail)
   go_wp2
   have hlt : m % n < n := Nat.mod_lt _ (by omega)
   refine ⟨⟨n, m % n, rfl, rfl, hn, by omega, ?_, ?_⟩, ?_⟩
   ·show Nat.gcd n (m % n) = Nat.gcd a b
    rw [Nat.gcd_comm, ← Nat.gcd_rec, Nat.gcd_comm]; exact hg.out
   ·obtain ⟨k, rfl⟩ := hw.out
    exact ⟨k + nq, by rw [World.drewN_drewN]⟩
   ·show ((m : Int) % (n : Int)).toNat < ((n : Nat) : Int).toNat
    rw [← Int.natCast_emod, Int.toNat_natCast, Int.toNat_natCast]; exact hlt
end Go.Proofs.YtebpfbgaafchjaaGreatDoor
