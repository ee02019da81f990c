/- Lemmas and contracts, each under its own condition: Contract: digitOf, a digit of a quotient, found in place. Long division: the plain part of div. bits.LeadingZeros32, bits.Len32, in the words of the proofs. Contract: div. Contract: div, the long way. Contracts: gcd, length. -/
import Derived.Deep.DeepCutAuto
import Derived.Deep.CutBlock
import Derived.StillTailTactics
import Derived.Deep.RegionWith
import Derived.Deep.LoopGhost
import Derived.Test.YthlkcppbljpooaaGreatDoorN0
import Derived.Test.YthlkcppbljpooaaGreatDoorN1
import Derived.Test.YthlkcppbljpooaaGreatDoorN2
import Derived.Test.YthlkcppbljpooaaGreatDoorShlf
/- Contract: digitOf, a digit of a quotient, found in place. -/
namespace Go.Proofs.YthlkcppbljpooaaGreatDoor
open Go.RowKit

/-- w' is w, but for the cells lo to hi-1 of block g, which stay as writable as they were -/
structure Upd (w w' : World) (g lo hi : Nat) : Prop where
 os : w'.os = w.os
 tape : w'.tape = w.tape
 output : w'.output = w.output
 size : w'.heap.size = w.heap.size
 block : ∀ k, k ≠ g → w'.heap[k]? = w.heap[k]?
 out : ∀ j, (j < lo ∨ hi ≤ j) → w'.cell? ⟨g, j, none⟩ = w.cell? ⟨g, j, none⟩
 free : ∀ a, w'.frozen? a = w.frozen? a

theorem Upd.refl (w : World) (g lo hi : Nat) : Upd w w g lo hi := ⟨rfl, rfl, rfl, rfl, fun _ _ => rfl, fun _ _ => rfl, fun _ => rfl⟩
theorem Upd.set {w w' : World} {g lo hi : Nat} (h : Upd w w' g lo hi) (j : Nat) (v : Value) (h1 : lo ≤ j) (h2 : j < hi) : Upd w (w'.setCell ⟨g, j, none⟩ v) g lo hi :=
 ⟨h.os, h.tape, h.output, by rw [← h.size]; simp [World.setCell], fun k hk => by rw [Below.heap_setCell _ _ _ _ hk]; exact h.block k hk,
  fun i hi' => by rw [World.cell?_setCell_other w' ⟨g, j, none⟩ ⟨g, i, none⟩ _ (fun e => by injection e with _ e2; omega)]; exact h.out i hi', fun a => by rw [World.frozen?_setCell]; exact h.free a⟩
theorem Upd.drewN {w w' : World} {g lo hi : Nat} (h : Upd w w' g lo hi) (n : Nat) : Upd w (w'.drewN n) g lo hi := ⟨h.os, h.tape, h.output, h.size, h.block, h.out, h.free⟩
theorem Upd.other {w w' : World} {g lo hi : Nat} (h : Upd w w' g lo hi) {g' n : Nat} {D : Nat → Nat} (hg : g' ≠ g) (hc : Cells w g' n D) : Cells w' g' n D := fun i hi => by
 rw [World.cell?_of_block (w := w) (h.block g' hg)]; exact hc i hi
theorem Upd.below {w w' : World} {g lo hi B : Nat} (h : Upd w w' g lo hi) (hB : B ≤ g) : Below B w w' := ⟨h.os, h.tape, h.output, by rw [h.size]; exact Nat.le_refl _, fun k hk => h.block k (by omega)⟩

/-- cells of block g from off on, writable -/
structure ArrAt (w : World) (g off n : Nat) (D : Nat → Nat) : Prop where
 cell : ∀ i, i < n → w.cell? ⟨g, off + i, none⟩ = some (.int .u32 (D i))
 free : ∀ i, w.frozen? ⟨g, i, none⟩ = false
theorem ArrAt.set {w : World} {g off n : Nat} {D : Nat → Nat} (h : ArrAt w g off n D) (i v : Nat) (hi : i < n) {z : Value} (hz : z = .int .u32 (v : Int)) :
  ArrAt (w.setCell ⟨g, off + i, none⟩ z) g off n (putD D i v) := by
 subst hz
 refine ⟨fun k hk => ?_, fun k => ?_⟩
 ·by_cases e : k = i
  ·subst e
   rw [putD_same]
   exact World.cell?_setCell_same w ⟨g, off + k, none⟩ _ (h.cell k hk)
  ·rw [putD_other _ _ _ _ e, World.cell?_setCell_other w ⟨g, off + i, none⟩ ⟨g, off + k, none⟩ _ (fun h' => e (by injection h' with _ h2; omega))]
   exact h.cell k hk
 ·rw [World.frozen?_setCell]; exact h.free k
theorem ArrAt.drewN {w : World} {g off n : Nat} {D : Nat → Nat} (h : ArrAt w g off n D) (k : Nat) : ArrAt (w.drewN k) g off n D := ⟨h.cell, h.free⟩

/-- the digit and the carry of a product -/
def mLo (c g v : Nat) : Nat := (c + g * v) % B32
def mHi (c g v : Nat) : Nat := (c + g * v) / B32
theorem m_eq (c g v : Nat) : c + g * v = mLo c g v + B32 * mHi c g v := (Nat.mod_add_div _ _).symm
theorem mLo_lt (c g v : Nat) : mLo c g v < B32 := Nat.mod_lt _ (by decide)
theorem mHi_lt {c g v : Nat} (hc : c < B32) (hg : g < B32) (hv : v < B32) : mHi c g v < B32 := by
 have h : g * v ≤ 4294967295 * 4294967295 := Nat.mul_le_mul (by unfold B32 at hg; omega) (by unfold B32 at hv; omega)
 unfold mHi; unfold B32 at *; omega
/-- k digits have been multiplied and subtracted -/
structure MSInv (w : World) (g off n : Nat) (U V : Nat → Nat) (gs k b c : Nat) (T : Nat → Nat) (wr : World) : Prop where
 arr : ArrAt wr g off (n + 1) T
 upd : Upd w wr g off (off + n + 1)
 dig : ∀ i, i < k → T i < B32
 same : ∀ i, k ≤ i → i < n + 1 → T i = U i
 borrow : b ≤ 1
 carry : c < B32
 eq : fval B32 T k + gs * fval B32 V k = fval B32 U k + B32 ^ k * (c + b)

theorem MSInv.step {w wr : World} {g off n gs k b c : Nat} {U V T : Nat → Nat} (h : MSInv w g off n U V gs k b c T wr) (hk : k < n) (hU : U k < B32) (hV : V k < B32) (hg : gs < B32) :
  MSInv w g off n U V gs (k + 1) (subHi (U k) (mLo c gs (V k)) b) (mHi c gs (V k)) (putD T k (subLo (U k) (mLo c gs (V k)) b))
   (wr.setCell ⟨g, off + k, none⟩ (.int .u32 (subLo (U k) (mLo c gs (V k)) b))) := by
 refine ⟨h.arr.set _ _ (by omega) rfl, h.upd.set _ _ (by omega) (by omega), fun i hi => ?_, fun i h1 h2 => ?_, subHi_le _ _ _, mHi_lt h.carry hg hV, ?_⟩
 ·by_cases e : i = k
  ·subst e; rw [putD_same]; exact subLo_lt _ _ _
  ·rw [putD_other _ _ _ _ e]; exact h.dig i (by omega)
 ·rw [putD_other _ _ _ _ (by omega)]; exact h.same i (by omega) h2
 ·rw [fval_succ, fval_succ, fval_succ, putD_same, fval_congr (E := T) k (fun i hi => putD_other _ _ _ _ (by omega)), Nat.pow_succ]
  exact mulsub_step h.eq (m_eq _ _ _) (sub_eq hU (mLo_lt _ _ _) h.borrow)

/-- k digits have been added back -/
structure BkInv (w : World) (g off n : Nat) (T V : Nat → Nat) (k s : Nat) (W : Nat → Nat) (wr : World) : Prop where
 arr : ArrAt wr g off (n + 1) W
 upd : Upd w wr g off (off + n + 1)
 dig : ∀ i, i < k → W i < B32
 same : ∀ i, k ≤ i → i < n + 1 → W i = T i
 carry : s ≤ 1
 eq : fval B32 W k + B32 ^ k * s = fval B32 T k + fval B32 V k

theorem BkInv.step {w wr : World} {g off n k s : Nat} {T V W : Nat → Nat} (h : BkInv w g off n T V k s W wr) (hk : k < n) (hT : T k < B32) (hV : V k < B32) {z : Value} (hz : z = .int .u32 (addLo (T k) (V k) s : Nat)) :
  BkInv w g off n T V (k + 1) (addHi (T k) (V k) s) (putD W k (addLo (T k) (V k) s)) (wr.setCell ⟨g, off + k, none⟩ z) := by
 refine ⟨h.arr.set _ _ (by omega) hz, h.upd.set _ _ (by omega) (by omega), fun i hi => ?_, fun i h1 h2 => ?_, addHi_le hT hV h.carry, ?_⟩
 ·by_cases e : i = k
  ·subst e; rw [putD_same]; exact addLo_lt _ _ _
  ·rw [putD_other _ _ _ _ e]; exact h.dig i (by omega)
 ·rw [putD_other _ _ _ _ (by omega)]; exact h.same i (by omega) h2
 ·rw [fval_succ, fval_succ, fval_succ, putD_same, fval_congr (E := W) k (fun i hi => putD_other _ _ _ _ (by omega)), Nat.pow_succ]
  exact add_step h.eq (add_eq _ _ _)

theorem BkInv.drewN {w wr : World} {g off n k s : Nat} {T V W : Nat → Nat} (h : BkInv w g off n T V k s W wr) (q : Nat) : BkInv w g off n T V k s W (wr.drewN q) :=
 ⟨h.arr.drewN q, h.upd.drewN q, h.dig, h.same, h.carry, h.eq⟩

end Go.Proofs.YthlkcppbljpooaaGreatDoor
/- Long division: the plain part of div. -/
namespace Go.Proofs.YthlkcppbljpooaaGreatDoor
open Go.RowKit

/-- a small value has no high digits -/
theorem fval_high_zero {B : Nat} {D : Nat → Nat} {k n : Nat} (hB : 0 < B) (h : fval B D n < B ^ k) : ∀ i, k ≤ i → i < n → D i = 0 := by
 induction n with
 | zero => intro i _ hi; omega
 | succ n ih =>
  intro i h1 h2
  rw [fval_succ] at h
  by_cases e : i = n
  ·subst e
   apply Classical.byContradiction
   intro hne
   have h3 : B ^ i * 1 ≤ B ^ i * D i := Nat.mul_le_mul_left _ (by omega)
   have h4 : B ^ k ≤ B ^ i := Nat.pow_le_pow_right hB h1
   omega
  ·exact ih (by omega) i h1 (by omega)

theorem hi_zeros {B : Nat} {D : Nat → Nat} {j l m : Nat} (hB : 0 < B) (hj : j + l ≤ m) (h : hi B D j m < B ^ l) : hi B D j m = fval B (fun i => D (j + i)) l := by
 unfold hi at *
 refine fval_zeros (by omega) (fun i h1 h2 => ?_)
 have := fval_high_zero (B := B) hB h i h1 (by omega)
 exact this

structure DivInv (w : World) (g1 g2 g3 m n : Nat) (U V : Nat → Nat) (k : Nat) (Q T : Nat → Nat) (wr : World) : Prop where
 q : Arr wr g3 (m + 1 - n) Q
 u : Arr wr g1 (m + 1) T
 v : Cells wr g2 n V
 below : Below w.heap.size w wr
 size : g3 < wr.heap.size
 qdig : ∀ i, k ≤ i → i < m + 1 - n → Q i < B32
 udig : ∀ i, i < m + 1 → T i < B32
 same : ∀ i, i < k → T i = U i
 rest : hi B32 T k (m + 1) < fval B32 V n
 eq : hi B32 U k (m + 1) = hi B32 Q k (m + 1 - n) * fval B32 V n + hi B32 T k (m + 1)

theorem DivInv.start {w wr : World} {g1 g2 g3 m n : Nat} {U V Q : Nat → Nat} (hq : Arr wr g3 (m + 1 - n) Q) (hu : Arr wr g1 (m + 1) U) (hv : Cells wr g2 n V) (hb : Below w.heap.size w wr)
  (hsz : g3 < wr.heap.size) (hU : ∀ i, i < m + 1 → U i < B32) (hlt : hi B32 U (m + 1 - n) (m + 1) < fval B32 V n) : DivInv w g1 g2 g3 m n U V (m + 1 - n) Q U wr :=
 ⟨hq, hu, hv, hb, hsz, fun i h1 h2 => by omega, hU, fun _ _ => rfl, hlt, by rw [hi_top]; omega⟩

/-- the digits that digitOf sees -/
theorem DivInv.div {w wr : World} {g1 g2 g3 m n k : Nat} {U V Q T : Nat → Nat} (h : DivInv w g1 g2 g3 m n U V (k + 1) Q T wr) (hk : k + 1 ≤ m + 1 - n) (hn : 2 ≤ n) (hV : ∀ i, i < n → V i < B32) (hhalf : B32 ≤ 2 * V (n - 1)) :
  Div B32 n (fun i => T (k + i)) V ∧ hi B32 T k (m + 1) = fval B32 (fun i => T (k + i)) (n + 1) := by
 have hVn := fval_lt n hV
 have hr := h.rest
 have e := hi_step B32 T (k := k) (m := m + 1) (by omega)
 have hT := h.udig k (by omega)
 have h1 : hi B32 T k (m + 1) < fval B32 V n * B32 := by
  rw [e]
  have : B32 * (hi B32 T (k + 1) (m + 1) + 1) ≤ B32 * fval B32 V n := Nat.mul_le_mul_left _ hr
  rw [Nat.mul_add, Nat.mul_one] at this
  rw [Nat.mul_comm (fval B32 V n)]
  omega
 have h2 : hi B32 T k (m + 1) < B32 ^ (n + 1) := by
  refine Nat.lt_of_lt_of_le h1 ?_
  rw [Nat.pow_succ]
  exact Nat.mul_le_mul_right _ (Nat.le_of_lt hVn)
 have h3 := hi_zeros (l := n + 1) (B := B32) (by decide) (by omega) h2
 exact ⟨⟨hn, fun i hi => h.udig _ (by omega), hV, hhalf, by rw [← h3]; exact h1, by decide⟩, h3⟩

theorem DivInv.step {w wr w1 : World} {g1 g2 g3 m n k : Nat} {U V Q T U' : Nat → Nat} (h : DivInv w g1 g2 g3 m n U V (k + 1) Q T wr) (hk : k + 1 ≤ m + 1 - n) (hn : 2 ≤ n) (hV : ∀ i, i < n → V i < B32) (hhalf : B32 ≤ 2 * V (n - 1))
  (h12 : g1 ≠ g2) (h13 : g1 ≠ g3) (h23 : g2 ≠ g3) (hw1 : w.heap.size ≤ g1) (hw3 : w.heap.size ≤ g3)
  (hc : ∀ i, i < n + 1 → w1.cell? ⟨g1, k + i, none⟩ = some (.int .u32 (U' i))) (hU' : ∀ i, i < n + 1 → U' i < B32)
  (hval : fval B32 U' (n + 1) = fval B32 (fun i => T (k + i)) (n + 1) % fval B32 V n) (hup : Upd wr w1 g1 k (k + n + 1)) {z : Value}
  (hz : z = .int .u32 ((fval B32 (fun i => T (k + i)) (n + 1) / fval B32 V n : Nat) : Int)) :
  ∃ T', DivInv w g1 g2 g3 m n U V k (putD Q k (fval B32 (fun i => T (k + i)) (n + 1) / fval B32 V n)) T' (w1.setCell ⟨g3, k, none⟩ z) := by
 obtain ⟨hd, hhi⟩ := h.div hk hn hV hhalf
 have hVpos := hd.Vpos
 have hold : ∀ i, i < m + 1 → w1.cell? ⟨g1, i, none⟩ = some (.int .u32 (((if k ≤ i ∧ i < k + n + 1 then U' (i - k) else T i) : Nat) : Int)) := fun i hi => by
  by_cases e : k ≤ i ∧ i < k + n + 1
  ·rw [if_pos e]
   have := hc (i - k) (by omega)
   rwa [show k + (i - k) = i from by omega] at this
  ·rw [if_neg e, hup.out i (by omega)]; exact h.u.cell i hi
 refine ⟨fun i => if k ≤ i ∧ i < k + n + 1 then U' (i - k) else T i, ?_⟩
 have hq1 : Arr w1 g3 (m + 1 - n) Q := ⟨hup.other (fun e => h13 e.symm) h.q.cell, fun i => by rw [hup.free]; exact h.q.free i⟩
 have hb1 : Below w.heap.size w w1 := h.below.trans (hup.below hw1)
 have hTk : hi B32 (fun i => if k ≤ i ∧ i < k + n + 1 then U' (i - k) else T i) k (m + 1) = fval B32 U' (n + 1) := by
  unfold hi
  have hhi2 := hhi
  unfold hi at hhi2
  have hz0 : ∀ i, n + 1 ≤ i → i < m + 1 - k → T (k + i) = 0 := by
   refine fval_high_zero (B := B32) (D := fun i => T (k + i)) (by decide) ?_
   rw [hhi2]
   exact fval_lt _ hd.udig
  rw [fval_zeros (k := n + 1) (by omega) (fun i h1 h2 => by
   show (if k ≤ k + i ∧ k + i < k + n + 1 then U' (k + i - k) else T (k + i)) = 0
   rw [if_neg (by omega)]; exact hz0 i h1 h2)]
  exact fval_congr _ (fun i hi => by
   show (if k ≤ k + i ∧ k + i < k + n + 1 then U' (k + i - k) else T (k + i)) = U' i
   rw [if_pos (by omega), Nat.add_sub_cancel_left])
 have hquo : fval B32 (fun i => T (k + i)) (n + 1) / fval B32 V n < B32 := Nat.div_lt_of_lt_mul hd.less
 refine ⟨hq1.set k _ (by omega) hz, ⟨fun i hi => ?_, fun i => ?_⟩, fun i hi => ?_, hb1.setCell hw3 _, ?_, fun i h1 h2 => ?_, fun i hi => ?_, fun i hi => ?_, ?_, ?_⟩
 ·rw [World.cell?_setCell_other w1 ⟨g3, k, none⟩ ⟨g1, i, none⟩ _ (fun e => by injection e with e1; exact h13 e1.symm)]
  exact hold i hi
 ·rw [World.frozen?_setCell, hup.free]; exact h.u.free i
 ·rw [World.cell?_setCell_other w1 ⟨g3, k, none⟩ ⟨g2, i, none⟩ _ (fun e => by injection e with e1; exact h23 e1.symm)]
  exact hup.other (fun e => h12 e.symm) h.v i hi
 ·have h1 := hup.size
  have h2 := h.size
  show g3 < (w1.heap.modify _ _).size
  rw [Array.size_modify]; omega
 ·by_cases e : i = k
  ·subst e; rw [putD_same]; exact hquo
  ·rw [putD_other _ _ _ _ e]; exact h.qdig i (by omega) h2
 ·show (if k ≤ i ∧ i < k + n + 1 then U' (i - k) else T i) < B32
  split
  ·exact hU' _ (by omega)
  ·exact h.udig i hi
 ·show (if k ≤ i ∧ i < k + n + 1 then U' (i - k) else T i) = U i
  rw [if_neg (by omega)]; exact h.same i (by omega)
 ·rw [hTk, hval]; exact Nat.mod_lt _ hVpos
 ·rw [hTk, hval, hi_step B32 U (by omega), h.eq, hi_step B32 (putD Q k _) (by omega), putD_same, hi_congr (D := putD Q k _) (E := Q) (fun i h1 h2 => putD_other _ _ _ _ (by omega)),
   ← h.same k (by omega)]
  have e := hi_step B32 T (k := k) (m := m + 1) (by omega)
  rw [hhi] at e
  have e2 := Nat.div_add_mod (fval B32 (fun i => T (k + i)) (n + 1)) (fval B32 V n)
  rw [e] at e2 ⊢
  generalize (T k + B32 * hi B32 T (k + 1) (m + 1)) / fval B32 V n = q at *
  generalize (T k + B32 * hi B32 T (k + 1) (m + 1)) % fval B32 V n = r at *
  generalize fval B32 V n = v at *
  generalize hi B32 T (k + 1) (m + 1) = t at *
  generalize hi B32 Q (k + 1) (m + 1 - n) = p at *
  rw [Nat.mul_add, Nat.add_mul, Nat.mul_comm q v, Nat.mul_assoc]
  omega

end Go.Proofs.YthlkcppbljpooaaGreatDoor
/- bits.LeadingZeros32, bits.Len32, in the words of the proofs. -/
namespace Go.Proofs.YthlkcppbljpooaaGreatDoor
open Go.RowKit

end Go.Proofs.YthlkcppbljpooaaGreatDoor
/- Contract: div. -/
namespace Go.Proofs.YthlkcppbljpooaaGreatDoor
open Go.RowKit

end Go.Proofs.YthlkcppbljpooaaGreatDoor
/- Contract: div, the long way. -/
namespace Go.Proofs.YthlkcppbljpooaaGreatDoor
open Go.RowKit

/-- digit i of a row that is shifted to the right -/
def shrD (T : Nat → Nat) (s i : Nat) : Nat := T i / 2 ^ s + T (i + 1) % 2 ^ s * 2 ^ (32 - s)
/-- i digits have been shifted -/
structure ShrInv (w : World) (g1 g3 t s l : Nat) (T Q : Nat → Nat) (i : Nat) (wr : World) : Prop where
 arr : Arr wr g1 t (fun k => if k < i then shrD T s k else T k)
 q : Cells wr g3 l Q
 below : Below w.heap.size w wr

theorem ShrInv.put {w wr : World} {g1 g3 t s l i : Nat} {T Q : Nat → Nat} (h : ShrInv w g1 g3 t s l T Q i wr) (hi : i < t) (h13 : g1 ≠ g3) (hw : w.heap.size ≤ g1) {z : Value} (hz : z = .int .u32 (shrD T s i : Nat)) :
  ShrInv w g1 g3 t s l T Q (i + 1) (wr.setCell ⟨g1, i, none⟩ z) := by
 have h1 := h.arr.set i (shrD T s i) hi hz
 refine ⟨⟨fun k hk => ?_, h1.free⟩, fun k hk => ?_, h.below.setCell hw _⟩
 ·rw [h1.cell k hk]
  congr 3
  by_cases e : k = i
  ·subst e; rw [putD_same, if_pos (by omega)]
  ·rw [putD_other _ _ _ _ e]
   by_cases e2 : k < i
   ·rw [if_pos e2, if_pos (by omega)]
   ·rw [if_neg e2, if_neg (by omega)]
 ·rw [World.cell?_setCell_other wr ⟨g1, i, none⟩ ⟨g3, k, none⟩ _ (fun e => by injection e with e1; exact h13 e1)]
  exact h.q k hk
/-- the first of two stores to one cell -/
theorem ShrInv.pre {w wr : World} {g1 g3 t s l i : Nat} {T Q : Nat → Nat} (h : ShrInv w g1 g3 t s l T Q i wr) (hi : i < t) (h13 : g1 ≠ g3) (hw : w.heap.size ≤ g1) {z y : Value} (hz : z = .int .u32 (shrD T s i : Nat)) (x : Nat) (hy : y = .int .u32 (x : Int)) :
  ShrInv w g1 g3 t s l T Q (i + 1) ((wr.setCell ⟨g1, i, none⟩ y).setCell ⟨g1, i, none⟩ z) := by
 have h1 := (h.arr.set i x hi hy).set i (shrD T s i) hi hz
 refine ⟨⟨fun k hk => ?_, h1.free⟩, fun k hk => ?_, (h.below.setCell hw _).setCell hw _⟩
 ·rw [h1.cell k hk]
  congr 3
  by_cases e : k = i
  ·subst e; rw [putD_same, if_pos (by omega)]
  ·rw [putD_other _ _ _ _ e, putD_other _ _ _ _ e]
   by_cases e2 : k < i
   ·rw [if_pos e2, if_pos (by omega)]
   ·rw [if_neg e2, if_neg (by omega)]
 ·rw [World.cell?_setCell_other (wr.setCell ⟨g1, i, none⟩ y) ⟨g1, i, none⟩ ⟨g3, k, none⟩ _ (fun e => by injection e with e1; exact h13 e1),
   World.cell?_setCell_other wr ⟨g1, i, none⟩ ⟨g3, k, none⟩ _ (fun e => by injection e with e1; exact h13 e1)]
  exact h.q k hk
theorem ShrInv.drew {w wr : World} {g1 g3 t s l i : Nat} {T Q : Nat → Nat} (h : ShrInv w g1 g3 t s l T Q i wr) : ShrInv w g1 g3 t s l T Q i wr.drew :=
 ⟨h.arr.drew, h.q, h.below.drew⟩

end Go.Proofs.YthlkcppbljpooaaGreatDoor
/- Contracts: gcd, length. -/
namespace Go.Proofs.YthlkcppbljpooaaGreatDoor
open Go.RowKit

end Go.Proofs.YthlkcppbljpooaaGreatDoor
