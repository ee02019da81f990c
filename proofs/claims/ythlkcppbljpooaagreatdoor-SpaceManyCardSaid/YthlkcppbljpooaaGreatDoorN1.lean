/- Lemmas and contracts, each under its own condition: What a slice of 32-bit digits, and a number, look like in memory; small facts that the walks use. Contracts of the smallest functions on natural numbers: trim, natOf, one, cmp, and bits.Add32, bits.Sub32. Contracts: cmp, bits.Add32, bits.Sub32, add, sub. Contracts: bits.Add32, bits.Sub32; the arithmetic of their results. Contract: add. Contract: sub. -/
import Derived.WalkKit
import Derived.Lib.Hide
import Derived.Deep.QuietTactic
import Derived.BigQuiet
import Derived.WalkSpells
import Derived.WalkLawsBesides
import Derived.Test.YthlkcppbljpooaaGreatDoorProg
import Derived.Test.YthlkcppbljpooaaGreatDoorN0
/- What a slice of 32-bit digits, and a number, look like in memory; small facts that the walks use. -/
namespace Go.Proofs.YthlkcppbljpooaaGreatDoor
open Go.RowKit

/-- the base of the program's natural numbers, and that of the reference's -/
abbrev B32 : Nat := 4294967296
abbrev B9 : Nat := 1000000000

/-- the length in a slot -/
def lenOf : Value → Nat
 | .slice _ n _ => n
 | _ => 0

theorem ret_slice {a : Option Addr} {n m cap : Nat} (h : n = m) : Ending.returned (.slice a n cap) = .returned (.slice a m cap) := by rw [h]
theorem ret_int {k : IntKind} {a b : Int} (h : a = b) : Ending.returned (.int k a) = .returned (.int k b) := by rw [h]
theorem ret_bool {a b : Bool} (h : a = b) : Ending.returned (.bool a) = .returned (.bool b) := by rw [h]

/-- the cells of block g from its start are the digits D 0 .. D (n-1) -/
def Cells (w : World) (g n : Nat) (D : Nat → Nat) : Prop := ∀ i, i < n → w.cell? ⟨g, i, none⟩ = some (.int .u32 (D i))

/-- the slice v shows the digits D 0 .. D (n-1) -/
def Sl (w : World) (v : Value) (n : Nat) (D : Nat → Nat) : Prop :=
 (v = .slice none 0 0 ∧ n = 0) ∨ ∃ g cap, v = .slice (some ⟨g, 0, none⟩) n cap ∧ n ≤ cap ∧ cap ≤ 9223372036854775807 ∧ Cells w g n D

/-- v is the natural number X, to the base B -/
def IsN (B : Nat) (w : World) (v : Value) (X : Nat) : Prop := ∃ n D, Rep B D n X ∧ Sl w v n D

/-- numbers that are far from all limits of memory -/
def LIM : Nat := 1000000
theorem LIM_eq : LIM = 1000000 := rfl
structure Sm (X : Nat) : Prop where
 lt : X < B32 ^ LIM
theorem Sm.mono {X Y : Nat} (h : Sm Y) (hXY : X ≤ Y) : Sm X := ⟨Nat.lt_of_le_of_lt hXY h.lt⟩
theorem Sm.of_bits {X k : Nat} (h : X < 2 ^ k) (hk : k ≤ 32000000) : Sm X := by
 have e : ∀ n : Nat, B32 ^ n = 2 ^ (32 * n) := fun n => by rw [Nat.pow_mul]
 have := LIM_eq
 refine ⟨?_⟩
 rw [e]
 exact Nat.lt_of_lt_of_le h (Nat.pow_le_pow_right (by omega) (by omega))
theorem Sm.len {X n : Nat} {D : Nat → Nat} (h : Sm X) (hr : Rep B32 D n X) : n ≤ 1000000 := by
 have h2 : n ≤ LIM := hr.len_le (by decide) h.lt
 have := LIM_eq
 omega
theorem Cells.later {w w' : World} {B g n : Nat} {D : Nat → Nat} (h : Cells w g n D) (hb : Below B w w') (hB : w.heap.size ≤ B) : Cells w' g n D := fun i hi => by
 rw [hb.cell (p := ⟨g, i, none⟩) (by have := World.block_lt_of_cell? w _ (h i hi); exact Nat.lt_of_lt_of_le this hB)]
 exact h i hi
theorem Sl.later {w w' : World} {B n : Nat} {v : Value} {D : Nat → Nat} (h : Sl w v n D) (hb : Below B w w') (hB : w.heap.size ≤ B) : Sl w' v n D := by
 rcases h with h | ⟨g, cap, h1, h2, h3, h4⟩
 ·exact .inl h
 ·exact .inr ⟨g, cap, h1, h2, h3, h4.later hb hB⟩
theorem IsN.later {B : Nat} {w w' : World} {v : Value} {X : Nat} (h : IsN B w v X) (hb : Below w.heap.size w w') : IsN B w' v X :=
 let ⟨n, D, h1, h2⟩ := h; ⟨n, D, h1, h2.later hb (Nat.le_refl _)⟩

/-- a result that is a number -/
def RetN (B X : Nat) (w : World) (e : Ending) (w' : World) : Prop := ∃ v, e = .returned v ∧ IsN B w' v X ∧ Below w.heap.size w w'

/-- a block of the call's own: its cells, and that they may be written -/
structure Arr (w : World) (g n : Nat) (D : Nat → Nat) : Prop where
 cell : Cells w g n D
 free : ∀ i, w.frozen? ⟨g, i, none⟩ = false

/-- one digit set anew -/
def putD (D : Nat → Nat) (i v : Nat) : Nat → Nat := fun k => if k = i then v else D k
theorem putD_same (D : Nat → Nat) (i v : Nat) : putD D i v i = v := by simp [putD]
theorem putD_other (D : Nat → Nat) (i v k : Nat) (h : k ≠ i) : putD D i v k = D k := by simp [putD, h]

theorem Arr.set {w : World} {g n : Nat} {D : Nat → Nat} (h : Arr w g n D) (i v : Nat) (hi : i < n) {z : Value} (hz : z = .int .u32 (v : Int)) :
  Arr (w.setCell ⟨g, i, none⟩ z) g n (putD D i v) := by
 subst hz
 refine ⟨fun k hk => ?_, fun k => ?_⟩
 ·by_cases e : k = i
  ·subst e
   rw [putD_same]
   exact World.cell?_setCell_same w ⟨g, k, none⟩ _ (h.cell k hk)
  ·rw [putD_other _ _ _ _ e, World.cell?_setCell_other w ⟨g, i, none⟩ ⟨g, k, none⟩ _ (fun h' => e (by injection h' with _ h2; exact h2.symm))]
   exact h.cell k hk
 ·rw [World.frozen?_setCell]; exact h.free k
theorem Arr.later {w w' : World} {B g n : Nat} {D : Nat → Nat} (h : Arr w g n D) (hb : Below B w w') (hg : g < B) : Arr w' g n D :=
 ⟨fun i hi => (hb.cell (p := ⟨g, i, none⟩) hg).trans (h.cell i hi), fun i => (hb.frozen (p := ⟨g, i, none⟩) hg).trans (h.free i)⟩
theorem Arr.drew {w : World} {g n : Nat} {D : Nat → Nat} (h : Arr w g n D) : Arr w.drew g n D := ⟨h.cell, h.free⟩

theorem madeCells_get (n i : Nat) (hi : i < n) : (madeCells #[.int .u32 0] n)[i]? = some (.int .u32 0) := by
 simp [madeCells, hi, Nat.mod_one]
theorem Arr.made (w : World) (n : Nat) (e : TypeId) : Arr (w.alloc (.cells (madeCells #[.int .u32 0] n) e)) w.heap.size n (fun _ => 0) :=
 ⟨fun i hi => by rw [World.cell?_alloc_at _ _ _ _ rfl]; simpa using madeCells_get n i hi, fun i => World.frozen?_alloc_at _ _ _ _ rfl⟩

theorem below_keep {w W w1 : World} (h0 : Below w.heap.size w W) (h : Below W.heap.size W w1) : Below w.heap.size w w1 := h0.trans (h.mono h0.size)
theorem IsN.nil (B : Nat) (w : World) : IsN B w (.slice none 0 0) 0 := ⟨0, fun _ => 0, Rep.zero _ _, .inl ⟨rfl, rfl⟩⟩
theorem below_drewN' (w : World) (k : Nat) : Below w.heap.size w (w.drewN k) := ⟨rfl, rfl, rfl, Nat.le_refl _, fun _ _ => rfl⟩
theorem below_alloc (w : World) (o : Obj) : Below w.heap.size w (w.alloc o) := (Below.refl _ _).alloc (Nat.le_refl _) _

theorem info135 : (Tryz.prog.info? 150).map (fun i => (i.zero, i.size, i.bytes)) = some (some (.int .u32 0), 1, 4) := by kernel_rfl
/-- make of a slice of digits: K is the size as the walk writes it -/
theorem run_makeD {t : TypeId} (ht : Tryz.prog.underlying t = some (.slice 150)) (K : Int) (n : Nat) (hK : K = n) (hn : n ≤ 1000000000000) (w : World) :
  (Instr.makeSlice t (.int .i64 K) (.int .i64 K)).run Tryz.prog w = .ok (.slice (some ⟨w.heap.size, 0, none⟩) n n) (w.alloc (.cells (madeCells #[.int .u32 0] n) 150)) := by
 obtain ⟨i0, hi, hz0, hz1, hz2⟩ := info_parts info135
 subst hK
 have h := run_make (P := Tryz.prog) w t 150 i0 (.int .u32 0) ht hi hz0 .i64 .i64 (n : Int) (n : Int) (by omega) (Int.le_refl _) (by rw [hz2]; omega) (by omega)
 simpa [hz1, Value.cells] using h

end Go.Proofs.YthlkcppbljpooaaGreatDoor
/- Contracts of the smallest functions on natural numbers: trim, natOf, one, cmp, and bits.Add32, bits.Sub32. -/
namespace Go.Proofs.YthlkcppbljpooaaGreatDoor
open Go.RowKit

theorem tlen_step {D : Nat → Nat} {k : Nat} (h : 0 < k) (e : ((D (k - 1) : Int) == 0) = true) : tlen D (k - 1) = tlen D k := by
 obtain ⟨m, rfl⟩ : ∃ m, k = m + 1 := ⟨k - 1, by omega⟩
 have : D m = 0 := by simpa using e
 simp [tlen, this]
theorem tlen_stop {D : Nat → Nat} {k : Nat} (h : 0 < k) (e : ((D (k - 1) : Int) == 0) = false) : tlen D k = k := by
 obtain ⟨m, rfl⟩ : ∃ m, k = m + 1 := ⟨k - 1, by omega⟩
 have : D m ≠ 0 := by simpa using e
 simp [tlen, this]

set_option maxHeartbeats 400000 in
theorem trim_pos (g n cap : Nat) (D : Nat → Nat) (w : World) (hn : n ≤ cap) (hm : cap ≤ 9223372036854775807) (hc : Cells w g n D) :
  Calls Tryz.prog 137 #[.slice (some ⟨g, 0, none⟩) n cap] w fun e w' => e = .returned (.slice (some ⟨g, 0, none⟩) (tlen D n) cap) ∧ w = w' := by
 go_enter Tryz.func137, Tryz.ntmps137
 go_wp2
 go_loop [0] (fun v => ∃ k : Nat, k ≤ n ∧ tlen D k = tlen D n ∧ v = .slice (some ⟨g, 0, none⟩) k cap) (fun v => lenOf v)
 case atStart => exact ⟨n, Nat.le_refl _, rfl, rfl⟩
 case round =>
  obtain ⟨k, hk, ht, rfl⟩ := hrel
  have HT := Lib.hid ht; clear ht
  by_cases h0 : 0 < k
  ·have hcell := hc (k - 1) (by omega)
   clear hc
   go_wp2
   ·have h1 : ((D (k - 1) : Int) == 0) = true := by assumption
    go_round
    case rel => exact ⟨k - 1, by omega, (tlen_step h0 h1).trans HT.out, rfl⟩
    case measure => simp [lenOf]; omega
   ·have h1 : ((D (k - 1) : Int) == 0) = false := by assumption
    go_ret
    exact ⟨ret_slice (by rw [← HT.out, tlen_stop h0 h1]), rfl⟩
  ·obtain rfl : k = 0 := by omega
   clear hc
   go_wp2
   go_ret
   exact ⟨ret_slice (by rw [← HT.out]; rfl), rfl⟩
theorem trim_nil (w : World) : Calls Tryz.prog 137 #[.slice none 0 0] w fun e w' => e = .returned (.slice none 0 0) ∧ w = w' := by
 go_enter Tryz.func137, Tryz.ntmps137
 go_wp2
 refine wp_loop_rounds 1 ?_
 rw [rounds_succ]
 go_wp2
 go_ret
 exact ⟨rfl, rfl⟩

/-- what trim gives -/
def RetTrim (n : Nat) (D : Nat → Nat) (w : World) (e : Ending) (w' : World) : Prop := ∃ v, e = .returned v ∧ Sl w' v (tlen D n) D ∧ w = w'
theorem trim_any {n : Nat} {D : Nat → Nat} {v : Value} {w : World} (h : Sl w v n D) :
  Calls Tryz.prog 137 #[v] w (RetTrim n D w) := by
 rcases h with ⟨rfl, rfl⟩ | ⟨g, cap, rfl, h1, h2, h3⟩
 ·exact (trim_nil w).mono fun e w' ⟨he, hw⟩ => ⟨_, he, by subst hw; exact .inl ⟨rfl, rfl⟩, hw⟩
 ·refine (trim_pos g n cap D w h1 h2 h3).mono fun e w' ⟨he, hw⟩ => ⟨_, he, ?_, hw⟩
  subst hw
  have := tlen_le D n
  exact .inr ⟨g, cap, rfl, by omega, h2, fun i hi => h3 i (by omega)⟩
theorem RetTrim.num {B n : Nat} {D : Nat → Nat} {w w' : World} {e : Ending} (hD : ∀ i, i < n → D i < B) (h : RetTrim n D w e w') :
  ∃ v, e = .returned v ∧ IsN B w' v (fval B D n) ∧ w = w' :=
 let ⟨v, he, hs, hw⟩ := h; ⟨v, he, ⟨_, D, Rep.trim hD, hs⟩, hw⟩

/-- the two digits of a number of 64 bits -/
def twoD (n : Nat) : Nat → Nat := fun i => if i = 0 then n % 4294967296 else n / 4294967296
theorem twoD_dig {n : Nat} (h : n < 18446744073709551616) (i : Nat) : twoD n i < B32 := by
 unfold twoD B32; split <;> omega
theorem twoD_val (n : Nat) : fval B32 (twoD n) 2 = n := by
 simp [fval, twoD, B32]; omega

set_option maxHeartbeats 400000 in
theorem natOf_any (n : Nat) (hn : n < 18446744073709551616) (w : World) :
  Calls Tryz.prog 117 #[.int .u64 n] w (RetN B32 n w) := by
 go_enter Tryz.func117, Tryz.ntmps117
 go_wp2_with fail
 refine (trim_any (n := 2) (D := twoD n) (.inr ⟨_, 2, rfl, by omega, by omega, ?_⟩)).mono ?_
 ·intro i hi
  rw [World.cell?_alloc_at _ _ _ _ rfl]
  have : i = 0 ∨ i = 1 := by omega
  rcases this with rfl | rfl <;> simp [twoD]
 rintro e w' h
 obtain ⟨v, rfl, hv, rfl⟩ := h.num (fun i _ => twoD_dig hn i)
 rw [twoD_val] at hv
 go_wp2
 go_ret
 exact ⟨_, rfl, hv, below_alloc _ _⟩

set_option maxHeartbeats 400000 in
theorem one_any {X : Nat} {v : Value} {w : World} (h : IsN B32 w v X) :
  Calls Tryz.prog 121 #[v] w fun e w' => e = .returned (.bool (decide (X = 1))) ∧ w = w' := by
 obtain ⟨n, D, hr, hs⟩ := h
 have key : (n = 1 ∧ D 0 = X) ∨ (n ≠ 1 ∧ X ≠ 1) := by
  by_cases e : n = 1
  ·subst e; left; exact ⟨rfl, by have := hr.eq; simpa [fval] using this⟩
  ·right; refine ⟨e, fun e2 => e ?_⟩
   subst e2
   have h1 := hr.len_le (k := 1) (by decide) (by decide)
   have h2 := hr.zero_iff (by decide)
   omega
 rcases hs with ⟨rfl, rfl⟩ | ⟨g, cap, rfl, h1, h2, h3⟩
 ·have hX : decide (X = 1) = false := by have := hr.eq; simp [fval] at this; simp [← this]
  have HX := Lib.hid hX; clear hX key hr
  go_enter Tryz.func121, Tryz.ntmps121
  go_wp2
  go_ret
  exact ⟨ret_bool HX.out.symm, rfl⟩
 ·rcases key with ⟨rfl, rfl⟩ | ⟨hn, hX⟩
  ·have hc := h3 0 (by omega)
   clear h3 hr
   go_enter Tryz.func121, Tryz.ntmps121
   go_wp2
   go_ret
   exact ⟨ret_bool (by rw [Bool.eq_iff_iff]; simp; omega), rfl⟩
  ·have hb : ((n : Int) == 1) = false := by rw [beq_eq_false_iff_ne]; omega
   have hX' : decide (X = 1) = false := by simpa using hX
   have HX := Lib.hid hX'
   clear h3 hr hX hX'
   go_enter Tryz.func121, Tryz.ntmps121
   go_wp2
   go_ret
   exact ⟨ret_bool HX.out.symm, rfl⟩
end Go.Proofs.YthlkcppbljpooaaGreatDoor
/- Contracts: cmp, bits.Add32, bits.Sub32, add, sub. -/
namespace Go.Proofs.YthlkcppbljpooaaGreatDoor
open Go.RowKit

/-- what a function gives that only reads -/
def RetQ (v : Value) (w : World) (e : Ending) (w' : World) : Prop := e = .returned v ∧ ∃ k, w' = w.drewN k
end Go.Proofs.YthlkcppbljpooaaGreatDoor
/- Contracts: bits.Add32, bits.Sub32; the arithmetic of their results. -/
namespace Go.Proofs.YthlkcppbljpooaaGreatDoor
open Go.RowKit

/-- the digit and the carry of a sum -/
def addLo (x y c : Nat) : Nat := (x + y + c) % 4294967296
def addHi (x y c : Nat) : Nat := (x + y + c) / 4294967296
theorem add_eq (x y c : Nat) : addLo x y c + B32 * addHi x y c = x + y + c := by unfold addLo addHi B32; omega
theorem addLo_lt (x y c : Nat) : addLo x y c < B32 := by unfold addLo B32; omega
theorem addHi_le {x y c : Nat} (hx : x < B32) (hy : y < B32) (hc : c ≤ 1) : addHi x y c ≤ 1 := by unfold addHi; unfold B32 at *; omega

/-- the digit and the borrow of a difference -/
def subLo (x y b : Nat) : Nat := (x + 2 * 4294967296 - y - b) % 4294967296
def subHi (x y b : Nat) : Nat := if x < y + b then 1 else 0
theorem sub_eq {x y b : Nat} (hx : x < B32) (hy : y < B32) (hb : b ≤ 1) : subLo x y b + y + b = x + B32 * subHi x y b := by
 unfold subLo subHi; unfold B32 at *; split <;> omega
theorem subLo_lt (x y b : Nat) : subLo x y b < B32 := by unfold subLo B32; omega
theorem subHi_le (x y b : Nat) : subHi x y b ≤ 1 := by unfold subHi; split <;> omega

end Go.Proofs.YthlkcppbljpooaaGreatDoor
/- Contract: add. -/
namespace Go.Proofs.YthlkcppbljpooaaGreatDoor
open Go.RowKit

/-- digits, zero from n on -/
def cutD (E : Nat → Nat) (n : Nat) : Nat → Nat := fun i => if i < n then E i else 0
theorem cutD_val (B : Nat) (E : Nat → Nat) {n m : Nat} (h : n ≤ m) : fval B (cutD E n) m = fval B E n := by
 rw [fval_zeros h (fun i h1 h2 => by simp [cutD]; omega)]
 exact fval_congr n (fun i hi => by simp [cutD, hi])
/-- one step of an addition with carry -/
theorem add_step {B L s x y r c c' p q : Nat} (h : s + L * c = p + q) (hr : r + B * c' = x + y + c) :
  (s + L * r) + L * B * c' = (p + L * x) + (q + L * y) := by
 have e : L * (r + B * c') = L * (x + y + c) := by rw [hr]
 simp only [Nat.mul_add, ← Nat.mul_assoc] at e
 omega

/-- what holds after k rounds -/
structure AddInv (w : World) (m : Nat) (D E : Nat → Nat) (k c : Nat) (O : Nat → Nat) (wr : World) : Prop where
 arr : Arr wr w.heap.size (m + 1) O
 below : Below w.heap.size w wr
 dig : ∀ i, i < k → O i < B32
 carry : c ≤ 1
 eq : fval B32 O k + B32 ^ k * c = fval B32 D k + fval B32 E k

theorem AddInv.step {w wr : World} {m k c : Nat} {D E O : Nat → Nat} (h : AddInv w m D E k c O wr) (hk : k < m) (hx : D k < B32) (hy : E k < B32) :
  AddInv w m D E (k + 1) (addHi (D k) (E k) c) (putD O k (addLo (D k) (E k) c)) (wr.setCell ⟨w.heap.size, k, none⟩ (.int .u32 (addLo (D k) (E k) c))) := by
 refine ⟨h.arr.set k _ (by omega) rfl, h.below.setCell (Nat.le_refl _) _, fun i hi => ?_, addHi_le hx hy h.carry, ?_⟩
 ·by_cases e : i = k
  ·subst e; rw [putD_same]; exact addLo_lt _ _ _
  ·rw [putD_other _ _ _ _ e]; exact h.dig i (by omega)
 ·rw [fval_succ, fval_succ, fval_succ, putD_same, fval_congr (E := O) k (fun i hi => putD_other _ _ _ _ (by omega)), Nat.pow_succ]
  exact add_step h.eq (add_eq _ _ _)

theorem Sl.shape {w : World} {v : Value} {n : Nat} {D : Nat → Nat} (h : Sl w v n D) : ∃ a g cap, v = .slice a n cap ∧ (0 < n → a = some ⟨g, 0, none⟩) ∧ n ≤ cap ∧ cap ≤ 9223372036854775807 ∧ Cells w g n D := by
 rcases h with ⟨rfl, rfl⟩ | ⟨g, cap, rfl, h1, h2, h3⟩
 ·exact ⟨none, 0, 0, rfl, fun h => by omega, Nat.le_refl _, by omega, fun i hi => by omega⟩
 ·exact ⟨_, g, cap, rfl, fun _ => rfl, h1, h2, h3⟩

end Go.Proofs.YthlkcppbljpooaaGreatDoor
/- Contract: sub. -/
namespace Go.Proofs.YthlkcppbljpooaaGreatDoor
open Go.RowKit

/-- one step of a subtraction with borrow -/
theorem sub_step {B L s x y r b b' p q : Nat} (h : s + q = p + L * b) (hr : r + y + b = x + B * b') :
  (s + L * r) + (q + L * y) = (p + L * x) + L * B * b' := by
 have e : L * (r + y + b) = L * (x + B * b') := by rw [hr]
 simp only [Nat.mul_add, ← Nat.mul_assoc] at e
 omega

structure SubInv (w : World) (m : Nat) (D E : Nat → Nat) (k b : Nat) (O : Nat → Nat) (wr : World) : Prop where
 arr : Arr wr w.heap.size m O
 below : Below w.heap.size w wr
 dig : ∀ i, i < k → O i < B32
 borrow : b ≤ 1
 eq : fval B32 O k + fval B32 E k = fval B32 D k + B32 ^ k * b

theorem SubInv.step {w wr : World} {m k b : Nat} {D E O : Nat → Nat} (h : SubInv w m D E k b O wr) (hk : k < m) (hx : D k < B32) (hy : E k < B32) :
  SubInv w m D E (k + 1) (subHi (D k) (E k) b) (putD O k (subLo (D k) (E k) b)) (wr.setCell ⟨w.heap.size, k, none⟩ (.int .u32 (subLo (D k) (E k) b))) := by
 refine ⟨h.arr.set k _ (by omega) rfl, h.below.setCell (Nat.le_refl _) _, fun i hi => ?_, subHi_le _ _ _, ?_⟩
 ·by_cases e : i = k
  ·subst e; rw [putD_same]; exact subLo_lt _ _ _
  ·rw [putD_other _ _ _ _ e]; exact h.dig i (by omega)
 ·rw [fval_succ, fval_succ, fval_succ, putD_same, fval_congr (E := O) k (fun i hi => putD_other _ _ _ _ (by omega)), Nat.pow_succ]
  exact sub_step h.eq (sub_eq hx hy h.borrow)

end Go.Proofs.YthlkcppbljpooaaGreatDoor
