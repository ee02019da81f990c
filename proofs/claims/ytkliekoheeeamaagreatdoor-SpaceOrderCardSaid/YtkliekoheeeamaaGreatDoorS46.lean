/- Lemmas and contracts, each under its own condition: The keys of the Hilbert order in plain words: numbers tell coordinates apart; they are ordered as the lists of their bits. Rank and Seq in plain words: keys tell coordinates apart, the sorted list is one, a rank is a place in it. -/
import Derived.Test.YtkliekoheeeamaaGreatDoorS10
import Derived.Test.YtkliekoheeeamaaGreatDoorS27
/- The keys of the Hilbert order in plain words: numbers tell coordinates apart; they are ordered as the lists of their bits. -/
namespace Go.Proofs.YtkliekoheeeamaaGreatDoor
open Go.RowKit

theorem ofInt_nat (a : Nat) : BitVec.ofInt 64 (a : Int) = BitVec.ofNat 64 a := BitVec.ofInt_natCast 64 a
theorem bits_xor_nat {a b : Nat} (ha : a < 2 ^ 62) (hb : b < 2 ^ 62) : bits .xor .i64 (a : Int) (b : Int) = ((a ^^^ b : Nat) : Int) := by
 have e : bits .xor .i64 (a : Int) (b : Int) = IntKind.i64.wrap (((BitVec.ofInt 64 (a : Int) ^^^ BitVec.ofInt 64 (b : Int)).toNat : Nat) : Int) := rfl
 rw [e, ofInt_nat, ofInt_nat, BitVec.toNat_xor, BitVec.toNat_ofNat, BitVec.toNat_ofNat, Nat.mod_eq_of_lt (by omega), Nat.mod_eq_of_lt (by omega)]
 have := Nat.xor_lt_two_pow ha hb
 exact IntWalk.i64_in _ (by omega)
theorem bits_and_nat {a b : Nat} (ha : a < 2 ^ 62) (hb : b < 2 ^ 62) : bits .and .i64 (a : Int) (b : Int) = ((a &&& b : Nat) : Int) := by
 have e : bits .and .i64 (a : Int) (b : Int) = IntKind.i64.wrap (((BitVec.ofInt 64 (a : Int) &&& BitVec.ofInt 64 (b : Int)).toNat : Nat) : Int) := rfl
 rw [e, ofInt_nat, ofInt_nat, BitVec.toNat_and, BitVec.toNat_ofNat, BitVec.toNat_ofNat, Nat.mod_eq_of_lt (by omega), Nat.mod_eq_of_lt (by omega)]
 have := Nat.and_lt_two_pow a hb
 exact IntWalk.i64_in _ (by omega)
theorem bit_nat {a q : Nat} (ha : a < 2 ^ 62) : bits .and .i64 ((a : Int) / 2 ^ q) 1 = ((a / 2 ^ q % 2 : Nat) : Int) := by
 have h1 : a / 2 ^ q < 2 ^ 62 := Nat.lt_of_le_of_lt (Nat.div_le_self _ _) ha
 have e : ((a : Int) / 2 ^ q) = ((a / 2 ^ q : Nat) : Int) := by norm_cast
 rw [e, show (1 : Int) = ((1 : Nat) : Int) from rfl, bits_and_nat h1 (by decide), Nat.and_one_is_mod]
theorem bit_test (a q : Nat) : a / 2 ^ q % 2 = 1 ↔ a.testBit q = true := by
 rw [Nat.testBit_eq_decide_div_mod_eq, decide_eq_true_eq]

/-- one step of the inner loop -/
def stN (q i : Nat) (Y : List Nat) : List Nat :=
 if (Y.getD i 0).testBit q = true then Y.set 0 (Y.getD 0 0 ^^^ (2 ^ q - 1))
 else (Y.set 0 (Y.getD 0 0 ^^^ ((Y.getD 0 0 ^^^ Y.getD i 0) &&& (2 ^ q - 1)))).set i (Y.getD i 0 ^^^ ((Y.getD 0 0 ^^^ Y.getD i 0) &&& (2 ^ q - 1)))
def inN (q : Nat) : Nat → Nat → List Nat → List Nat
 | 0, _, Y => Y
 | m + 1, i, Y => inN q m (i + 1) (stN q i Y)
def outN (n : Nat) : Nat → List Nat → List Nat
 | 0, Y => Y
 | 1, Y => Y
 | p + 2, Y => outN n (p + 1) (inN (p + 1) n 0 Y)
def grayN : Nat → Nat → List Nat → List Nat
 | 0, _, Y => Y
 | m + 1, i, Y => grayN m (i + 1) (Y.set i (Y.getD i 0 ^^^ Y.getD (i - 1) 0))
def tN (z : Nat) : Nat → Nat → Nat
 | 0, t => t
 | 1, t => t
 | p + 2, t => tN z (p + 1) (if z.testBit (p + 1) = true then t ^^^ (2 ^ (p + 1) - 1) else t)
/-- the bits of a row of numbers, and of all rows from the p-th one down -/
def rowB (t q : Nat) (Y : List Nat) : List Nat := Y.map fun c => (c ^^^ t) / 2 ^ q % 2
def bitsB (t : Nat) (Y : List Nat) : Nat → List Nat
 | 0 => []
 | p + 1 => rowB t p Y ++ bitsB t Y p
/-- the bits of the key -/
def hilB (b : Nat) (y : List Nat) : List Nat :=
 let Y := grayN (y.length - 1) 1 (outN y.length b y)
 bitsB (tN (Y.getD (y.length - 1) 0) b 0) Y b
/-- a number of its bits -/
def numB (k : Nat) (l : List Nat) : Nat := l.foldl (fun k d => 2 * k + d) k
abbrev castL (Y : List Nat) : List Int := Y.map fun (x : Nat) => (x : Int)
theorem castL_getD (Y : List Nat) (i : Nat) : (castL Y).getD i 0 = ((Y.getD i 0 : Nat) : Int) := by
 rw [List.getD_eq_getElem?_getD, List.getD_eq_getElem?_getD, List.getElem?_map]
 cases Y[i]? <;> rfl
theorem castL_set (Y : List Nat) (i x : Nat) : (castL Y).set i (x : Int) = castL (Y.set i x) := by
 rw [castL, castL, List.map_set]
def SmallN (Y : List Nat) : Prop := ∀ y ∈ Y, y < 4096
theorem SmallN.getD {Y : List Nat} (h : SmallN Y) (i : Nat) : Y.getD i 0 < 4096 := by
 rw [List.getD_eq_getElem?_getD]
 cases hi : Y[i]? with
 | none => decide
 | some y => exact h y (List.mem_of_getElem? hi)
theorem SmallN.set {Y : List Nat} (h : SmallN Y) {i x : Nat} (hx : x < 4096) : SmallN (Y.set i x) := fun y hy => by
 rcases List.mem_or_eq_of_mem_set hy with h1 | h1
 ·exact h y h1
 ·rw [h1]; exact hx
theorem xor_small {a b : Nat} (ha : a < 4096) (hb : b < 4096) : a ^^^ b < 4096 := Nat.xor_lt_two_pow (n := 12) ha hb
theorem and_small {a b : Nat} (hb : b < 4096) : a &&& b < 4096 := Nat.and_lt_two_pow (n := 12) a hb
theorem low_small {q : Nat} (h : q ≤ 12) : 2 ^ q - 1 < 4096 := by
 have : (2 : Nat) ^ q ≤ 2 ^ 12 := Nat.pow_le_pow_right (by decide) h
 omega
theorem low_cast (q : Nat) : ((2 : Int) ^ q - 1) = ((2 ^ q - 1 : Nat) : Int) := by
 have : 1 ≤ 2 ^ q := Nat.one_le_two_pow
 rw [Int.natCast_sub this]
 norm_cast
theorem stZ_nat {q i : Nat} {Y : List Nat} (hY : SmallN Y) (hq : q ≤ 12) : stepZ q i (castL Y) = castL (stN q i Y) ∧ SmallN (stN q i Y) := by
 have h0 := hY.getD 0
 have hi := hY.getD i
 have hl := low_small hq
 have k0 : Y.getD 0 0 < 2 ^ 62 := by omega
 have ki : Y.getD i 0 < 2 ^ 62 := by omega
 have kl : 2 ^ q - 1 < 2 ^ 62 := by omega
 unfold stepZ stN
 rw [castL_getD, castL_getD, bit_nat ki, low_cast, bits_xor_nat k0 kl, bits_xor_nat k0 ki]
 have x1 : (Y.getD 0 0 ^^^ Y.getD i 0) < 4096 := xor_small h0 hi
 have a1 : ((Y.getD 0 0 ^^^ Y.getD i 0) &&& (2 ^ q - 1)) < 4096 := and_small hl
 rw [bits_and_nat (by omega) kl, bits_xor_nat k0 (by omega)]
 by_cases hb : (Y.getD i 0).testBit q = true
 ·rw [if_pos hb, if_pos (by rw [(bit_test _ _).2 hb]; rfl), castL_set]
  exact ⟨rfl, hY.set (xor_small h0 hl)⟩
 ·rw [if_neg hb, if_neg (by
   intro hc
   exact hb ((bit_test _ _).1 (by exact_mod_cast hc))), castL_set, castL_getD]
  have x2 := xor_small h0 a1
  have e2 : (Y.set 0 (Y.getD 0 0 ^^^ ((Y.getD 0 0 ^^^ Y.getD i 0) &&& (2 ^ q - 1)))).getD i 0 ^^^ ((Y.getD 0 0 ^^^ Y.getD i 0) &&& (2 ^ q - 1)) = if i = 0 then (Y.set 0 (Y.getD 0 0 ^^^ ((Y.getD 0 0 ^^^ Y.getD i 0) &&& (2 ^ q - 1)))).getD i 0 ^^^ ((Y.getD 0 0 ^^^ Y.getD i 0) &&& (2 ^ q - 1)) else Y.getD i 0 ^^^ ((Y.getD 0 0 ^^^ Y.getD i 0) &&& (2 ^ q - 1)) := by
   split
   ·rfl
   ·rename_i hne
    rw [List.getD_eq_getElem?_getD, List.getElem?_set_ne (Ne.symm hne), ← List.getD_eq_getElem?_getD]
  have hs := (hY.set (i := 0) x2).getD i
  rw [bits_xor_nat (by omega) (by omega), castL_set]
  by_cases h9 : i = 0
  ·subst h9
   have e3 : ((Y.getD 0 0 ^^^ Y.getD 0 0) &&& (2 ^ q - 1)) = 0 := by rw [Nat.xor_self, Nat.zero_and]
   rw [e3, Nat.xor_zero, Nat.xor_zero]
   have e4 : ((Y.set 0 (Y.getD 0 0)).set 0 ((Y.set 0 (Y.getD 0 0)).getD 0 0)) = (Y.set 0 (Y.getD 0 0)).set 0 (Y.getD 0 0) := by
    cases Y <;> rfl
   rw [e4]
   exact ⟨rfl, (hY.set h0).set h0⟩
  ·rw [e2, if_neg h9]
   exact ⟨rfl, (hY.set x2).set (xor_small hi a1)⟩
theorem stN_length (q i : Nat) (Y : List Nat) : (stN q i Y).length = Y.length := by
 unfold stN
 split <;> simp
theorem inZ_nat {q : Nat} (hq : q ≤ 12) : ∀ (m i : Nat) {Y : List Nat}, SmallN Y → inR q m i (castL Y) = castL (inN q m i Y) ∧ SmallN (inN q m i Y) ∧ (inN q m i Y).length = Y.length
 | 0, _, _, h => ⟨rfl, h, rfl⟩
 | m + 1, i, Y, h => by
  obtain ⟨e, h2⟩ := stZ_nat (i := i) h hq
  obtain ⟨e3, h3, h4⟩ := inZ_nat hq m (i + 1) h2
  rw [inR, inN, e]
  exact ⟨e3, h3, by rw [h4, stN_length]⟩
theorem outZ_nat (n : Nat) : ∀ (p : Nat) {Y : List Nat}, p ≤ 13 → SmallN Y → outR n p (castL Y) = castL (outN n p Y) ∧ SmallN (outN n p Y) ∧ (outN n p Y).length = Y.length
 | 0, _, _, h => ⟨rfl, h, rfl⟩
 | 1, _, _, h => ⟨rfl, h, rfl⟩
 | p + 2, Y, hp, h => by
  obtain ⟨e, h2, h3⟩ := inZ_nat (q := p + 1) (by omega) n 0 h
  obtain ⟨e4, h5, h6⟩ := outZ_nat n (p + 1) (by omega) h2
  rw [outR, outN, e]
  exact ⟨e4, h5, by rw [h6, h3]⟩
theorem grayZ_nat : ∀ (m i : Nat) {Y : List Nat}, SmallN Y → grayR m i (castL Y) = castL (grayN m i Y) ∧ SmallN (grayN m i Y) ∧ (grayN m i Y).length = Y.length
 | 0, _, _, h => ⟨rfl, h, rfl⟩
 | m + 1, i, Y, h => by
  have h1 := h.getD i
  have h2 := h.getD (i - 1)
  obtain ⟨e4, h5, h6⟩ := grayZ_nat m (i + 1) (h.set (i := i) (xor_small h1 h2))
  rw [grayR, grayN, castL_getD, castL_getD, bits_xor_nat (by omega) (by omega), castL_set]
  exact ⟨e4, h5, by rw [h6, List.length_set]⟩
theorem tZ_nat (z : Nat) (hz : z < 4096) : ∀ (p : Nat) {t : Nat}, p ≤ 13 → t < 4096 → tR (z : Int) p (t : Int) = ((tN z p t : Nat) : Int) ∧ tN z p t < 4096
 | 0, _, _, h => ⟨rfl, h⟩
 | 1, _, _, h => ⟨rfl, h⟩
 | p + 2, t, hp, h => by
  have hl := low_small (q := p + 1) (by omega)
  have hx := xor_small h hl
  rw [tR, tN, bit_nat (by omega), low_cast, bits_xor_nat (by omega) (by omega)]
  by_cases hb : z.testBit (p + 1) = true
  ·rw [if_pos hb, if_pos (by rw [(bit_test _ _).2 hb]; rfl)]
   exact tZ_nat z hz (p + 1) (by omega) hx
  ·rw [if_neg hb, if_neg (by
    intro hc
    exact hb ((bit_test _ _).1 (by exact_mod_cast hc)))]
   exact tZ_nat z hz (p + 1) (by omega) h
theorem numB_append (k : Nat) (a b : List Nat) : numB k (a ++ b) = numB (numB k a) b := List.foldl_append
theorem rowZ_nat {t q : Nat} (ht : t < 4096) : ∀ {Y : List Nat} {k : Nat}, SmallN Y → rowK (t : Int) q (k : Int) (castL Y) = ((numB k (rowB t q Y) : Nat) : Int)
 | [], _, _ => rfl
 | c :: l, k, h => by
  have hc := h c (by simp)
  have hx := xor_small hc ht
  have ih := rowZ_nat (q := q) ht (Y := l) (k := 2 * k + (c ^^^ t) / 2 ^ q % 2) (fun y hy => h y (by simp [hy]))
  show rowK (t : Int) q (2 * (k : Int) + bits .and .i64 (bits .xor .i64 (c : Int) (t : Int) / 2 ^ q) 1) (castL l) = _
  rw [bits_xor_nat (by omega) (by omega), bit_nat (by omega)]
  have e : (2 * (k : Int) + (((c ^^^ t) / 2 ^ q % 2 : Nat) : Int)) = ((2 * k + (c ^^^ t) / 2 ^ q % 2 : Nat) : Int) := by omega
  rw [e, ih]
  rfl
theorem keyZ_nat {t : Nat} (ht : t < 4096) {Y : List Nat} (h : SmallN Y) : ∀ (p k : Nat), keyR (t : Int) (castL Y) p (k : Int) = ((numB k (bitsB t Y p) : Nat) : Int)
 | 0, _ => rfl
 | p + 1, k => by
  rw [keyR, rowZ_nat ht h, keyZ_nat ht h p, bitsB, numB_append]
theorem hilZ_nat {b : Nat} {y : List Nat} (h : SmallN y) (hb : b ≤ 12) : hilZ b (castL y) = ((numB 0 (hilB b y) : Nat) : Int) := by
 unfold hilZ hilB
 simp only [castL, List.length_map]
 obtain ⟨e1, h1, l1⟩ := outZ_nat y.length b (by omega) h
 obtain ⟨e2, h2, l2⟩ := grayZ_nat (y.length - 1) 1 h1
 rw [show List.map (fun (x : Nat) => (x : Int)) y = castL y from rfl, e1, e2, castL_getD]
 obtain ⟨e3, h3⟩ := tZ_nat _ (h2.getD (y.length - 1)) b (t := 0) (by omega) (by decide)
 rw [show (0 : Int) = ((0 : Nat) : Int) from rfl, e3, keyZ_nat h3 h2]

/-- lists of bits of one length are compared as their numbers are -/
def BitL (l : List Nat) : Prop := ∀ d ∈ l, d < 2
theorem numB_lt : ∀ {l : List Nat} {k : Nat}, BitL l → numB k l < (k + 1) * 2 ^ l.length
 | [], k, _ => by simp [numB]
 | d :: l, k, h => by
  have hd := h d (by simp)
  have ih := numB_lt (l := l) (k := 2 * k + d) (fun x hx => h x (by simp [hx]))
  show numB (2 * k + d) l < _
  refine Nat.lt_of_lt_of_le ih ?_
  rw [List.length_cons, Nat.pow_succ, Nat.mul_comm (2 ^ l.length) 2, ← Nat.mul_assoc]
  exact Nat.mul_le_mul_right _ (by omega)
theorem numB_ge : ∀ {l : List Nat} {k : Nat}, k * 2 ^ l.length ≤ numB k l
 | [], k => by simp [numB]
 | d :: l, k => by
  have ih := numB_ge (l := l) (k := 2 * k + d)
  show _ ≤ numB (2 * k + d) l
  refine Nat.le_trans ?_ ih
  rw [List.length_cons, Nat.pow_succ, Nat.mul_comm (2 ^ l.length) 2, ← Nat.mul_assoc]
  exact Nat.mul_le_mul_right _ (by omega)
theorem cmp_bits : ∀ {a b : List Nat} {k : Nat}, BitL a → BitL b → a.length = b.length → cmpI (castL a) (castL b) = cmpI [((numB k a : Nat) : Int)] [((numB k b : Nat) : Int)]
 | [], [], k, _, _, _ => by simp [cmpI, numB]
 | [], _ :: _, _, _, _, h => by simp at h
 | _ :: _, [], _, _, _, h => by simp at h
 | x :: a, y :: b, k, ha, hb, h => by
  have hl : a.length = b.length := by simpa using h
  have hx := ha x (by simp)
  have hy := hb y (by simp)
  have ha' : BitL a := fun z hz => ha z (by simp [hz])
  have hb' : BitL b := fun z hz => hb z (by simp [hz])
  have g1 := numB_lt (k := 2 * k + x) ha'
  have g2 := numB_ge (l := b) (k := 2 * k + y)
  have g3 := numB_lt (k := 2 * k + y) hb'
  have g4 := numB_ge (l := a) (k := 2 * k + x)
  rw [hl] at g1 g4
  show cmpI ((x : Int) :: castL a) ((y : Int) :: castL b) = cmpI [((numB (2 * k + x) a : Nat) : Int)] [((numB (2 * k + y) b : Nat) : Int)]
  by_cases h1 : x < y
  ·have : numB (2 * k + x) a < numB (2 * k + y) b := Nat.lt_of_lt_of_le g1 (Nat.le_trans (Nat.mul_le_mul_right _ (by omega)) g2)
   rw [cmpI, if_pos (by omega), cmpI, if_pos (by omega)]
  ·by_cases h2 : y < x
   ·have : numB (2 * k + y) b < numB (2 * k + x) a := Nat.lt_of_lt_of_le g3 (Nat.le_trans (Nat.mul_le_mul_right _ (by omega)) g4)
    rw [cmpI, if_neg (by omega), if_pos (by omega), cmpI, if_neg (by omega), if_pos (by omega)]
   ·obtain rfl : x = y := by omega
    rw [cmpI, if_neg (by omega), if_neg (by omega)]
    exact cmp_bits ha' hb' hl
theorem rowB_bit (t q : Nat) (Y : List Nat) : BitL (rowB t q Y) := fun d hd => by
 obtain ⟨c, -, rfl⟩ := List.mem_map.1 hd
 exact Nat.mod_lt _ (by decide)
theorem bitsB_bit (t : Nat) (Y : List Nat) : ∀ p, BitL (bitsB t Y p)
 | 0 => fun d hd => by cases hd
 | p + 1 => fun d hd => by
  rcases List.mem_append.1 hd with h | h
  ·exact rowB_bit t p Y d h
  ·exact bitsB_bit t Y p d h
theorem bitsB_length (t : Nat) (Y : List Nat) : ∀ p, (bitsB t Y p).length = p * Y.length
 | 0 => by simp [bitsB]
 | p + 1 => by rw [bitsB, List.length_append, bitsB_length t Y p, rowB, List.length_map, Nat.add_mul, Nat.one_mul, Nat.add_comm]
theorem hilB_bit (b : Nat) (y : List Nat) : BitL (hilB b y) := bitsB_bit _ _ _
theorem hilB_length {b : Nat} {y : List Nat} (h : SmallN y) (hb : b ≤ 12) : (hilB b y).length = b * y.length := by
 unfold hilB
 obtain ⟨-, h1, l1⟩ := outZ_nat y.length b (by omega) h
 obtain ⟨-, h2, l2⟩ := grayZ_nat (y.length - 1) 1 h1
 rw [bitsB_length, l2, l1]
/-- numbers and lists of bits are ordered alike -/
theorem hil_cmp {b : Nat} {x y : List Nat} (hx : SmallN x) (hy : SmallN y) (hb : b ≤ 12) (hl : x.length = y.length) : cmpI [hilZ b (castL x)] [hilZ b (castL y)] = cmpI (castL (hilB b x)) (castL (hilB b y)) := by
 rw [hilZ_nat hx hb, hilZ_nat hy hb]
 exact (cmp_bits (hilB_bit b x) (hilB_bit b y) (by rw [hilB_length hx hb, hilB_length hy hb, hl])).symm

/-- keys tell coordinates apart -/
theorem testBit_low (q j : Nat) : (2 ^ q - 1).testBit j = decide (j < q) := Nat.testBit_two_pow_sub_one q j
theorem getD_set_self {Y : List Nat} {i x : Nat} (h : i < Y.length) : (Y.set i x).getD i 0 = x := by
 rw [List.getD_eq_getElem?_getD, List.getElem?_set_self h]; rfl
theorem getD_set_ne {Y : List Nat} {i j x : Nat} (h : i ≠ j) : (Y.set i x).getD j 0 = Y.getD j 0 := by
 rw [List.getD_eq_getElem?_getD, List.getElem?_set_ne h, ← List.getD_eq_getElem?_getD]
theorem set_getD (Y : List Nat) (i : Nat) : Y.set i (Y.getD i 0) = Y := by
 apply List.ext_getElem?
 intro k
 by_cases h : i = k
 ·subst h
  by_cases hi : i < Y.length
  ·rw [List.getElem?_set_self hi, List.getD_eq_getElem?_getD, List.getElem?_eq_getElem hi]; rfl
  ·rw [List.getElem?_eq_none (by simp; omega), List.getElem?_eq_none (by omega)]
 ·rw [List.getElem?_set_ne h]
theorem xor_cancel (a b : Nat) : a ^^^ b ^^^ b = a := by rw [Nat.xor_assoc, Nat.xor_self, Nat.xor_zero]
theorem low_bit (a q : Nat) : (a ^^^ (2 ^ q - 1)).testBit q = a.testBit q := by
 rw [Nat.testBit_xor, testBit_low]; simp
theorem lowa_bit (a b q : Nat) : (a ^^^ (b &&& (2 ^ q - 1))).testBit q = a.testBit q := by
 rw [Nat.testBit_xor, Nat.testBit_and, testBit_low]; simp
theorem stN_twice {q i : Nat} {Y : List Nat} (hi : i < Y.length) : stN q i (stN q i Y) = Y := by
 have h0 : 0 < Y.length := by omega
 by_cases hb : (Y.getD i 0).testBit q = true
 ·have e1 : stN q i Y = Y.set 0 (Y.getD 0 0 ^^^ (2 ^ q - 1)) := by unfold stN; rw [if_pos hb]
  have hb2 : ((Y.set 0 (Y.getD 0 0 ^^^ (2 ^ q - 1))).getD i 0).testBit q = true := by
   by_cases e : i = 0
   ·subst e
    rw [getD_set_self hi, low_bit]; exact hb
   ·rw [getD_set_ne (Ne.symm e)]; exact hb
  rw [e1]
  unfold stN
  rw [if_pos hb2, getD_set_self h0, xor_cancel, List.set_set, set_getD]
 ·by_cases e : i = 0
  ·subst e
   have e1 : stN q 0 Y = Y := by
    unfold stN
    rw [if_neg hb, Nat.xor_self, Nat.zero_and, Nat.xor_zero, set_getD, set_getD]
   rw [e1, e1]
  ·have e1 : stN q i Y = (Y.set 0 (Y.getD 0 0 ^^^ ((Y.getD 0 0 ^^^ Y.getD i 0) &&& (2 ^ q - 1)))).set i (Y.getD i 0 ^^^ ((Y.getD 0 0 ^^^ Y.getD i 0) &&& (2 ^ q - 1))) := by unfold stN; rw [if_neg hb]
   rw [e1]
   generalize ht : (Y.getD 0 0 ^^^ Y.getD i 0) &&& (2 ^ q - 1) = t
   have f0 : ((Y.set 0 (Y.getD 0 0 ^^^ t)).set i (Y.getD i 0 ^^^ t)).getD 0 0 = Y.getD 0 0 ^^^ t := by
    rw [getD_set_ne e, getD_set_self h0]
   have fi : ((Y.set 0 (Y.getD 0 0 ^^^ t)).set i (Y.getD i 0 ^^^ t)).getD i 0 = Y.getD i 0 ^^^ t := by
    rw [getD_set_self (by simpa using hi)]
   have et : ((Y.getD 0 0 ^^^ t) ^^^ (Y.getD i 0 ^^^ t)) = (Y.getD 0 0 ^^^ Y.getD i 0) := by
    rw [Nat.xor_comm (Y.getD i 0) t, ← Nat.xor_assoc, xor_cancel]
   unfold stN
   rw [f0, fi, if_neg (by rw [← ht, lowa_bit]; exact hb), et, ht, xor_cancel, xor_cancel]
   have eA : ((Y.set 0 (Y.getD 0 0 ^^^ t)).set i (Y.getD i 0 ^^^ t)).set 0 (Y.getD 0 0) = Y.set i (Y.getD i 0 ^^^ t) := by
    rw [List.set_comm _ _ e, List.set_set, set_getD]
   rw [eA, List.set_set, set_getD]
theorem stN_inj {q i : Nat} {Y Z : List Nat} (hi : i < Y.length) (hl : Y.length = Z.length) (h : stN q i Y = stN q i Z) : Y = Z := by
 rw [← stN_twice (q := q) hi, h, stN_twice (by omega)]
theorem inN_inj {q : Nat} : ∀ (m i : Nat) {Y Z : List Nat}, i + m ≤ Y.length → Y.length = Z.length → inN q m i Y = inN q m i Z → Y = Z
 | 0, _, _, _, _, _, h => h
 | m + 1, i, Y, Z, hi, hl, h => stN_inj (by omega) hl (inN_inj m (i + 1) (by rw [stN_length]; omega) (by rw [stN_length, stN_length, hl]) h)
theorem inN_length {q : Nat} : ∀ (m i : Nat) (Y : List Nat), (inN q m i Y).length = Y.length
 | 0, _, _ => rfl
 | m + 1, i, Y => by rw [inN, inN_length, stN_length]
theorem outN_inj {n : Nat} : ∀ (p : Nat) {Y Z : List Nat}, Y.length = n → Z.length = n → outN n p Y = outN n p Z → Y = Z
 | 0, _, _, _, _, h => h
 | 1, _, _, _, _, h => h
 | p + 2, Y, Z, h1, h2, h => inN_inj n 0 (by omega) (by omega) (outN_inj (p + 1) (by rw [inN_length, h1]) (by rw [inN_length, h2]) h)
theorem outN_length {n : Nat} : ∀ (p : Nat) (Y : List Nat), (outN n p Y).length = Y.length
 | 0, _ => rfl
 | 1, _ => rfl
 | p + 2, Y => by rw [outN, outN_length, inN_length]
theorem gray_inj1 {i : Nat} {Y Z : List Nat} (hi : 0 < i) (hl : Y.length = Z.length) (hn : i < Y.length) (h : Y.set i (Y.getD i 0 ^^^ Y.getD (i - 1) 0) = Z.set i (Z.getD i 0 ^^^ Z.getD (i - 1) 0)) : Y = Z := by
 have g1 : ∀ k, k ≠ i → Y.getD k 0 = Z.getD k 0 := fun k hk => by
  have := congrArg (fun L => L.getD k 0) h
  rwa [getD_set_ne (Ne.symm hk), getD_set_ne (Ne.symm hk)] at this
 have g2 := congrArg (fun L => L.getD i 0) h
 rw [getD_set_self hn, getD_set_self (by omega), g1 (i - 1) (by omega)] at g2
 have g3 : Y.getD i 0 = Z.getD i 0 := by rw [← xor_cancel (Y.getD i 0) (Z.getD (i - 1) 0), g2, xor_cancel]
 have h2 := congrArg (fun L => L.set i (Y.getD i 0)) h
 simp only [List.set_set] at h2
 rw [set_getD] at h2
 rw [h2, g3, set_getD]
theorem grayN_inj : ∀ (m i : Nat) {Y Z : List Nat}, 0 < i → i + m ≤ Y.length → Y.length = Z.length → grayN m i Y = grayN m i Z → Y = Z
 | 0, _, _, _, _, _, _, h => h
 | m + 1, i, Y, Z, h0, hi, hl, h => gray_inj1 h0 hl (by omega) (grayN_inj m (i + 1) (by omega) (by rw [List.length_set]; omega) (by rw [List.length_set, List.length_set, hl]) h)
theorem grayN_length : ∀ (m i : Nat) (Y : List Nat), (grayN m i Y).length = Y.length
 | 0, _, _ => rfl
 | m + 1, i, Y => by rw [grayN, grayN_length, List.length_set]
theorem tN_high (z : Nat) : ∀ (p t j : Nat), p ≤ j + 1 → (tN z p t).testBit j = t.testBit j
 | 0, _, _, _ => rfl
 | 1, _, _, _ => rfl
 | p + 2, t, j, h => by
  rw [tN, tN_high z (p + 1) _ j (by omega)]
  split
  ·rw [Nat.testBit_xor, testBit_low, decide_eq_false (by omega), Bool.xor_false]
  ·rfl
theorem tN_inj : ∀ (p : Nat) {y z t : Nat}, y / 2 ^ p = z / 2 ^ p → y ^^^ tN y p t = z ^^^ tN z p t → y = z
 | 0, y, z, t, h, _ => by simpa using h
 | 1, y, z, t, _, h => by
  have := congrArg (fun x => x ^^^ t) h
  simpa [tN, xor_cancel] using this
 | p + 2, y, z, t, h, he => by
  have hb := congrArg (fun x => x.testBit (p + 1)) he
  rw [Nat.testBit_xor, Nat.testBit_xor, tN_high _ _ _ _ (by omega), tN_high _ _ _ _ (by omega)] at hb
  have hb2 : y.testBit (p + 1) = z.testBit (p + 1) := by
   cases hy : y.testBit (p + 1) <;> cases hz : z.testBit (p + 1) <;> cases ht : t.testBit (p + 1) <;> simp_all
  have hd : y / 2 ^ (p + 1) = z / 2 ^ (p + 1) := by
   have e1 : y / 2 ^ (p + 2) = y / 2 ^ (p + 1) / 2 := by rw [Nat.div_div_eq_div_mul, ← Nat.pow_succ]
   have e2 : z / 2 ^ (p + 2) = z / 2 ^ (p + 1) / 2 := by rw [Nat.div_div_eq_div_mul, ← Nat.pow_succ]
   have h1 : y / 2 ^ (p + 1) % 2 = 1 ↔ z / 2 ^ (p + 1) % 2 = 1 := by rw [bit_test, bit_test, hb2]
   rw [e1, e2] at h
   omega
  rw [tN, tN, ← hb2] at he
  exact tN_inj (p + 1) hd he
theorem list_get {Y Z : List Nat} (hl : Y.length = Z.length) (h : ∀ i, i < Y.length → Y.getD i 0 = Z.getD i 0) : Y = Z := by
 apply List.ext_getElem?
 intro k
 by_cases hk : k < Y.length
 ·have := h k hk
  rw [List.getD_eq_getElem?_getD, List.getD_eq_getElem?_getD, List.getElem?_eq_getElem hk, List.getElem?_eq_getElem (by omega)] at this
  rw [List.getElem?_eq_getElem hk, List.getElem?_eq_getElem (by omega)]
  exact congrArg some this
 ·rw [List.getElem?_eq_none (by omega), List.getElem?_eq_none (by omega)]
theorem rowB_eq {t t' q : Nat} {Y Z : List Nat} (h : rowB t q Y = rowB t' q Z) (i : Nat) (hi : i < Y.length) (hj : i < Z.length) : (Y.getD i 0 ^^^ t).testBit q = (Z.getD i 0 ^^^ t').testBit q := by
 have := congrArg (fun l => l[i]?) h
 simp only [rowB, List.getElem?_map, List.getElem?_eq_getElem hi, List.getElem?_eq_getElem hj, Option.map_some, Option.some.injEq] at this
 rw [List.getD_eq_getElem?_getD, List.getD_eq_getElem?_getD, List.getElem?_eq_getElem hi, List.getElem?_eq_getElem hj]
 simp only [Option.getD_some]
 rw [Nat.testBit_eq_decide_div_mod_eq, Nat.testBit_eq_decide_div_mod_eq, this]
theorem bitsB_inj {t t' : Nat} {Y Z : List Nat} (hl : Y.length = Z.length) : ∀ (p : Nat), bitsB t Y p = bitsB t' Z p → ∀ q, q < p → ∀ i, i < Y.length → (Y.getD i 0 ^^^ t).testBit q = (Z.getD i 0 ^^^ t').testBit q
 | 0, _, q, hq, _, _ => by omega
 | p + 1, h, q, hq, i, hi => by
  rw [bitsB, bitsB] at h
  obtain ⟨h1, h2⟩ := List.append_inj h (by simp [rowB, hl])
  by_cases e : q = p
  ·subst e
   exact rowB_eq h1 i hi (by omega)
  ·exact bitsB_inj hl p h2 q (by omega) i hi
def BelowN (b : Nat) (Y : List Nat) : Prop := ∀ y ∈ Y, y < 2 ^ b
theorem BelowN.getD {b : Nat} {Y : List Nat} (h : BelowN b Y) (i : Nat) : Y.getD i 0 < 2 ^ b := by
 rw [List.getD_eq_getElem?_getD]
 cases hi : Y[i]? with
 | none => exact Nat.two_pow_pos b
 | some y => exact h y (List.mem_of_getElem? hi)
theorem BelowN.set {b : Nat} {Y : List Nat} (h : BelowN b Y) {i x : Nat} (hx : x < 2 ^ b) : BelowN b (Y.set i x) := fun y hy => by
 rcases List.mem_or_eq_of_mem_set hy with h1 | h1
 ·exact h y h1
 ·rw [h1]; exact hx
theorem low_lt {q b : Nat} (h : q ≤ b) : 2 ^ q - 1 < 2 ^ b := by
 have : (2 : Nat) ^ q ≤ 2 ^ b := Nat.pow_le_pow_right (by decide) h
 have := Nat.two_pow_pos q
 omega
theorem stN_below {b q i : Nat} {Y : List Nat} (h : BelowN b Y) (hq : q ≤ b) : BelowN b (stN q i Y) := by
 have h0 := h.getD 0
 have hi := h.getD i
 have hl := low_lt hq
 unfold stN
 split
 ·exact h.set (Nat.xor_lt_two_pow h0 hl)
 ·exact (h.set (Nat.xor_lt_two_pow h0 (Nat.and_lt_two_pow _ hl))).set (Nat.xor_lt_two_pow hi (Nat.and_lt_two_pow _ hl))
theorem inN_below {b q : Nat} (hq : q ≤ b) : ∀ (m i : Nat) {Y : List Nat}, BelowN b Y → BelowN b (inN q m i Y)
 | 0, _, _, h => h
 | m + 1, i, _, h => inN_below hq m (i + 1) (stN_below h hq)
theorem outN_below {b n : Nat} : ∀ (p : Nat) {Y : List Nat}, p ≤ b + 1 → BelowN b Y → BelowN b (outN n p Y)
 | 0, _, _, h => h
 | 1, _, _, h => h
 | p + 2, _, hp, h => outN_below (p + 1) (by omega) (inN_below (by omega) n 0 h)
theorem grayN_below {b : Nat} : ∀ (m i : Nat) {Y : List Nat}, BelowN b Y → BelowN b (grayN m i Y)
 | 0, _, _, h => h
 | m + 1, i, _, h => grayN_below m (i + 1) (h.set (Nat.xor_lt_two_pow (h.getD i) (h.getD (i - 1))))
theorem tN_below {b : Nat} (z : Nat) : ∀ (p : Nat) {t : Nat}, p ≤ b + 1 → t < 2 ^ b → tN z p t < 2 ^ b
 | 0, _, _, h => h
 | 1, _, _, h => h
 | p + 2, t, hp, h => by
  rw [tN]
  refine tN_below z (p + 1) (by omega) ?_
  split
  ·exact Nat.xor_lt_two_pow h (low_lt (by omega))
  ·exact h
theorem xor_eq_of {b x y : Nat} (hx : x < 2 ^ b) (hy : y < 2 ^ b) (h : ∀ q, q < b → x.testBit q = y.testBit q) : x = y := by
 refine Nat.eq_of_testBit_eq fun q => ?_
 by_cases hq : q < b
 ·exact h q hq
 ·have hp : 2 ^ b ≤ 2 ^ q := Nat.pow_le_pow_right (by decide) (by omega)
  rw [Nat.testBit_lt_two_pow (by omega), Nat.testBit_lt_two_pow (by omega)]
theorem hilB_inj {b : Nat} {x y : List Nat} (hx : BelowN b x) (hy : BelowN b y) (hl : x.length = y.length) (h : hilB b x = hilB b y) : x = y := by
 rcases Nat.eq_zero_or_pos x.length with h0 | h0
 ·rw [List.length_eq_zero_iff.1 h0, List.length_eq_zero_iff.1 (show y.length = 0 by omega)]
 unfold hilB at h
 simp only at h
 rw [← hl] at h
 have bx := grayN_below (x.length - 1) 1 (outN_below (n := x.length) b (by omega) hx)
 have by' := grayN_below (x.length - 1) 1 (outN_below (n := x.length) b (by omega) hy)
 have lx : (grayN (x.length - 1) 1 (outN x.length b x)).length = x.length := by rw [grayN_length, outN_length]
 have ly : (grayN (x.length - 1) 1 (outN x.length b y)).length = x.length := by rw [grayN_length, outN_length, hl]
 have key : grayN (x.length - 1) 1 (outN x.length b x) = grayN (x.length - 1) 1 (outN x.length b y) := by
  generalize grayN (x.length - 1) 1 (outN x.length b x) = X at *
  generalize grayN (x.length - 1) 1 (outN x.length b y) = Y at *
  have tx := tN_below (b := b) (X.getD (x.length - 1) 0) b (t := 0) (by omega) (Nat.two_pow_pos b)
  have ty := tN_below (b := b) (Y.getD (x.length - 1) 0) b (t := 0) (by omega) (Nat.two_pow_pos b)
  have H : ∀ i, i < x.length → X.getD i 0 ^^^ tN (X.getD (x.length - 1) 0) b 0 = Y.getD i 0 ^^^ tN (Y.getD (x.length - 1) 0) b 0 := fun i hi =>
   xor_eq_of (Nat.xor_lt_two_pow (bx.getD i) tx) (Nat.xor_lt_two_pow (by'.getD i) ty) fun q hq => bitsB_inj (by omega) b h q hq i (by omega)
  have h1 := tN_inj b (by rw [Nat.div_eq_of_lt (bx.getD _), Nat.div_eq_of_lt (by'.getD _)]) (H (x.length - 1) (by omega))
  refine list_get (by omega) fun i hi => ?_
  have h2 := H i (by omega)
  rw [h1] at h2
  rw [← xor_cancel (X.getD i 0) (tN (Y.getD (x.length - 1) 0) b 0), h2, xor_cancel]
 exact outN_inj b rfl hl.symm (grayN_inj _ 1 (by decide) (by rw [outN_length]; omega) (by rw [outN_length, outN_length, hl]) key)
end Go.Proofs.YtkliekoheeeamaaGreatDoor
/- Rank and Seq in plain words: keys tell coordinates apart, the sorted list is one, a rank is a place in it. -/
namespace Go.Proofs.YtkliekoheeeamaaGreatDoor
open Go.RowKit

theorem ptsL_nodup : ∀ {lo hi : List Int}, (ptsL lo hi).Nodup
 | [], _ => by simp [ptsL]
 | _ :: _, [] => by simp [ptsL]
 | l :: ls, h :: hs => by
  have ih := ptsL_nodup (lo := ls) (hi := hs)
  rw [ptsL]
  unfold List.Nodup
  rw [List.pairwise_flatMap]
  refine ⟨fun k _ => ?_, ?_⟩
  ·rw [List.pairwise_map]
   exact ih.imp fun {a b} hab e => hab (by injection e)
  ·refine List.pairwise_lt_range.imp fun {a b} hab x hx y hy e => ?_
   obtain ⟨u, -, rfl⟩ := List.mem_map.1 hx
   obtain ⟨v, -, rfl⟩ := List.mem_map.1 hy
   injection e with e1 _
   omega
theorem bitAux_lt : ∀ (f x : Nat), x < 2 ^ f → x < 2 ^ Lib.bitLenAux f x
 | 0, x, h => by simpa [Lib.bitLenAux] using h
 | f + 1, x, h => by
  rw [Lib.bitLenAux]
  split
  ·rename_i h0
   subst h0; decide
  ·have := bitAux_lt f (x / 2) (by rw [Nat.pow_succ] at h; omega)
   rw [Nat.add_comm, Nat.pow_succ]
   omega
theorem bitLen_lt {x : Nat} (h : x < 4096) : x < 2 ^ Lib.bitLen x := bitAux_lt 64 x (Nat.lt_of_lt_of_le h (by decide))
theorem bitsL_ge : ∀ {m : Nat} {lo hi : List Int}, m ≤ bitsL m lo hi
 | m, [], _ => Nat.le_refl _
 | m, _ :: _, [] => Nat.le_refl _
 | m, l :: ls, h :: hs => by
  have := bitsL_ge (m := max m (Lib.bitLen (h - l).toNat)) (lo := ls) (hi := hs)
  rw [bitsL]
  omega
theorem bitsL_get : ∀ {m i : Nat} {lo hi : List Int} {l h : Int}, lo[i]? = some l → hi[i]? = some h → Lib.bitLen (h - l).toNat ≤ bitsL m lo hi
 | m, 0, a :: ls, b :: hs, l, h, hl, hh => by
  simp only [List.getElem?_cons_zero, Option.some.injEq] at hl hh
  subst hl hh
  have := bitsL_ge (m := max m (Lib.bitLen (b - a).toNat)) (lo := ls) (hi := hs)
  rw [bitsL]
  omega
 | m, i + 1, a :: ls, b :: hs, l, h, hl, hh => by
  rw [bitsL]
  exact bitsL_get (by simpa using hl) (by simpa using hh)
 | _, _, [], _, _, _, hl, _ => by simp at hl
 | _, _, _ :: _, [], _, _, _, hh => by simp at hh
/-- the numbers of coordinates in a box -/
def natL (x lo : List Int) : List Nat := (subL x lo).map Int.toNat
structure InBox (lo hi x : List Int) : Prop where
 len : x.length = lo.length
 each : ∀ (i : Nat) (a b y : Int), lo[i]? = some a → hi[i]? = some b → x[i]? = some y → a ≤ y ∧ y ≤ b
theorem subL_some {x lo : List Int} {i : Nat} {y : Int} (h : (subL x lo)[i]? = some y) : ∃ a b, x[i]? = some a ∧ lo[i]? = some b ∧ y = a - b := by
 induction x generalizing lo i with
 | nil => simp [subL] at h
 | cons a x ih => cases lo with
  | nil => simp [subL] at h
  | cons b lo => cases i with
   | zero =>
    simp only [subL, List.getElem?_cons_zero, Option.some.injEq] at h
    exact ⟨a, b, rfl, rfl, h.symm⟩
   | succ i => exact ih (by simpa [subL] using h)
theorem natL_cast {lo hi x : List Int} (hl : lo.length = hi.length) (h : InBox lo hi x) : castL (natL x lo) = subL x lo := by
 unfold natL castL
 rw [List.map_map]
 refine (List.map_congr_left fun y hy => ?_).trans (List.map_id _)
 obtain ⟨i, hi'⟩ := List.getElem?_of_mem hy
 obtain ⟨a, b, ha, hb, rfl⟩ := subL_some hi'
 obtain ⟨c, hc⟩ : ∃ c, hi[i]? = some c := ⟨_, List.getElem?_eq_getElem (by have := (List.getElem?_eq_some_iff.1 hb).1; omega)⟩
 have := h.each i b c a hb hc ha
 show ((a - b).toNat : Int) = a - b
 omega
theorem natL_below {lo hi x : List Int} (hl : lo.length = hi.length) (h : InBox lo hi x) (hw : ∀ (i : Nat) (a b : Int), lo[i]? = some a → hi[i]? = some b → b - a < 4096) : BelowN (bitsL 0 lo hi) (natL x lo) ∧ SmallN (natL x lo) := by
 have key : ∀ y ∈ natL x lo, y < 2 ^ bitsL 0 lo hi ∧ y < 4096 := fun y hy => by
  obtain ⟨z, hz, rfl⟩ := List.mem_map.1 hy
  obtain ⟨i, hi'⟩ := List.getElem?_of_mem hz
  obtain ⟨a, b, ha, hb, rfl⟩ := subL_some hi'
  obtain ⟨c, hc⟩ : ∃ c, hi[i]? = some c := ⟨_, List.getElem?_eq_getElem (by have := (List.getElem?_eq_some_iff.1 hb).1; omega)⟩
  have h1 := h.each i b c a hb hc ha
  have h2 := hw i b c hb hc
  have h3 := bitLen_lt (x := (c - b).toNat) (by omega)
  have h4 : 2 ^ Lib.bitLen (c - b).toNat ≤ 2 ^ bitsL 0 lo hi := Nat.pow_le_pow_right (by decide) (bitsL_get hb hc)
  omega
 exact ⟨fun y hy => (key y hy).1, fun y hy => (key y hy).2⟩
theorem natL_length {lo hi x : List Int} (h : InBox lo hi x) : (natL x lo).length = lo.length := by
 unfold natL
 rw [List.length_map, subL_length h.len]
theorem subL_inj {x y lo : List Int} (hx : x.length = lo.length) (hy : y.length = lo.length) (h : subL x lo = subL y lo) : x = y := by
 apply List.ext_getElem?
 intro i
 by_cases hi : i < lo.length
 ·have e1 := subL_get (x := x) (lo := lo) (i := i) (List.getElem?_eq_getElem (by omega)) (List.getElem?_eq_getElem hi)
  have e2 := subL_get (x := y) (lo := lo) (i := i) (List.getElem?_eq_getElem (by omega)) (List.getElem?_eq_getElem hi)
  rw [h, e2] at e1
  rw [List.getElem?_eq_getElem (by omega), List.getElem?_eq_getElem (by omega)]
  simp only [Option.some.injEq] at e1 ⊢
  omega
 ·rw [List.getElem?_eq_none (by omega), List.getElem?_eq_none (by omega)]
/-- boxes whose coordinates can be ordered -/
structure BoxS (lo hi : List Int) : Prop where
 len : lo.length = hi.length
 bits : bitsL 0 lo hi ≤ 12
 wide : ∀ (i : Nat) (a b : Int), lo[i]? = some a → hi[i]? = some b → a ≤ b ∧ b - a < 4096
theorem boxS_of {lo hi : List Int} (h2 : formedB lo hi = true) (h3 : limE lo hi = 0) : BoxS lo hi := by
 unfold formedB at h2
 simp only [Bool.and_eq_true, decide_eq_true_eq] at h2
 obtain ⟨hA, n, hB, -⟩ := limE_zero h3
 have hw : ∀ (i : Nat) (a b : Int), lo[i]? = some a → hi[i]? = some b → a ≤ b ∧ b - a < 4096 := fun i a b ha hb => ⟨(limA_get hA ha hb).2, limB_get hB ha hb⟩
 refine ⟨h2.1.1, bitsL_le (Nat.zero_le _) fun i a b ha hb => ?_, hw⟩
 have := hw i a b ha hb
 omega
theorem inBox_of {lo hi x : List Int} (hl : lo.length = hi.length) : x ∈ ptsL lo hi ↔ InBox lo hi x := by
 rw [ptsL_mem hl]
 constructor
 ·rintro ⟨h1, h2⟩
  exact ⟨h1, h2⟩
 ·rintro ⟨h1, h2⟩
  exact ⟨h1, h2⟩
theorem keyF_inj {order tl : Int} {lo hi x y : List Int} (hb : BoxS lo hi) (hx : InBox lo hi x) (hy : InBox lo hi y) (h : keyF order tl (bitsL 0 lo hi) (subL x lo) = keyF order tl (bitsL 0 lo hi) (subL y lo)) : x = y := by
 refine subL_inj hx.len hy.len ?_
 unfold keyF at h
 split at h
 ·rw [← natL_cast hb.len hx, ← natL_cast hb.len hy] at h ⊢
  have bx := natL_below hb.len hx fun i a b ha hb' => (hb.wide i a b ha hb').2
  have by' := natL_below hb.len hy fun i a b ha hb' => (hb.wide i a b ha hb').2
  have hl : (natL x lo).length = (natL y lo).length := by rw [natL_length hx, natL_length hy]
  have hc := hil_cmp bx.2 by'.2 hb.bits hl
  rw [h, cmpI_self] at hc
  have hc := (cmpI_zero.1 hc.symm)
  have hc2 : hilB (bitsL 0 lo hi) (natL x lo) = hilB (bitsL 0 lo hi) (natL y lo) := by
   have := congrArg (fun l => l.map Int.toNat) hc
   simpa [castL, List.map_map, Function.comp_def] using this
  rw [hilB_inj bx.1 by'.1 hl hc2]
 ·split at h
  ·exact (List.append_inj' h (by rw [subL_length hx.len, subL_length hy.len])).2
  ·exact h
/-- the reference's keys -/
def rkeyF (order tl : Int) (b : Nat) (y : List Int) : List Int := if order = 2 then castL (hilB b (y.map Int.toNat)) else if order = 3 then y.map (· / tl) ++ y else y
theorem rkey_cmp {order tl : Int} {lo hi x y : List Int} (hb : BoxS lo hi) (hx : InBox lo hi x) (hy : InBox lo hi y) :
  cmpI (keyF order tl (bitsL 0 lo hi) (subL x lo)) (keyF order tl (bitsL 0 lo hi) (subL y lo)) = cmpI (rkeyF order tl (bitsL 0 lo hi) (subL x lo)) (rkeyF order tl (bitsL 0 lo hi) (subL y lo)) := by
 unfold keyF rkeyF
 split
 ·have bx := natL_below hb.len hx fun i a b ha hb' => (hb.wide i a b ha hb').2
  have by' := natL_below hb.len hy fun i a b ha hb' => (hb.wide i a b ha hb').2
  have hl : (natL x lo).length = (natL y lo).length := by rw [natL_length hx, natL_length hy]
  have := hil_cmp bx.2 by'.2 hb.bits hl
  rw [natL_cast hb.len hx, natL_cast hb.len hy] at this
  exact this
 ·rfl
/-- the key of coordinates in the order of a layout -/
abbrev keyO (l : LayT) (lo hi : List Int) (x : List Int) : List Int := keyF l.order l.tile (bitsL 0 lo hi) (subL x lo)
theorem sorted_one {l : LayT} {lo hi : List Int} {r r' : List (List Int)} (hb : BoxS lo hi) (h1 : SortedBy l lo hi r) (h2 : SortedBy l lo hi r') : r = r' :=
 sortK_unique (h1.1.trans h2.1.symm) h1.2 h2.2 fun _ hx _ hy he => keyF_inj hb ((inBox_of hb.len).1 (h1.1.mem_iff.1 hx)) ((inBox_of hb.len).1 (h1.1.mem_iff.1 hy)) he
theorem sorted_ref {l : LayT} {lo hi : List Int} {r : List (List Int)} (hb : BoxS lo hi) (hp : r.Perm (ptsL lo hi)) (hs : SortK (fun x => rkeyF l.order l.tile (bitsL 0 lo hi) (subL x lo)) r) : SortedBy l lo hi r := by
 refine ⟨hp, hs.imp_of_mem fun {x y} hx hy hxy => ?_⟩
 unfold leK at hxy ⊢
 rw [rkey_cmp hb ((inBox_of hb.len).1 (hp.mem_iff.1 hy)) ((inBox_of hb.len).1 (hp.mem_iff.1 hx))]
 exact hxy
/-- how many coordinates are before some -/
def rankN (l : LayT) (lo hi c : List Int) : Nat := ((ptsL lo hi).filter fun p => decide (cmpI (keyO l lo hi p) (keyO l lo hi c) = -1)).length
theorem rank_place {α : Type} {K : α → List Int} {r : List α} (hs : SortK K r) (hn : r.Nodup) (hi : ∀ x ∈ r, ∀ y ∈ r, K x = K y → x = y) {i : Nat} {x : α} (h : r[i]? = some x) : (r.filter fun p => decide (cmpI (K p) (K x) = -1)).length = i := by
 obtain ⟨hlt, hx⟩ := List.getElem?_eq_some_iff.1 h
 have e : r = r.take i ++ x :: r.drop (i + 1) := by
  rw [← hx, ← List.drop_eq_getElem_cons hlt, List.take_append_drop]
 have l1 : (r.take i).length = i := by rw [List.length_take]; omega
 generalize r.take i = A at *
 generalize r.drop (i + 1) = B at *
 subst e
 have hp := List.pairwise_append.1 hs
 have hq := List.pairwise_cons.1 hp.2.1
 have hnp := List.pairwise_append.1 hn
 rw [List.filter_append, List.filter_cons, if_neg (by rw [decide_eq_true_eq, cmpI_self]; decide)]
 have f1 : A.filter (fun p => decide (cmpI (K p) (K x) = -1)) = A := by
  rw [List.filter_eq_self]
  intro p hpA
  rw [decide_eq_true_eq]
  have h1 := hp.2.2 p hpA x (by simp)
  rcases cmpI_cases (K p) (K x) with hc | hc | hc
  ·exact hc
  ·exact absurd (hi p (by simp [hpA]) x (by simp) (cmpI_zero.1 hc)) (hnp.2.2 p hpA x (by simp))
  ·exact absurd (by rw [cmpI_swap, hc]) h1
 have f2 : B.filter (fun p => decide (cmpI (K p) (K x) = -1)) = [] := by
  rw [List.filter_eq_nil_iff]
  intro p hpB
  rw [decide_eq_true_eq]
  exact hq.1 p hpB
 rw [f1, f2, List.append_nil, l1]
theorem rankN_of {l : LayT} {lo hi : List Int} {r : List (List Int)} (hb : BoxS lo hi) (h : SortedBy l lo hi r) {i : Nat} {c : List Int} (hc : r[i]? = some c) : rankN l lo hi c = i := by
 have := rank_place h.2 (h.1.nodup_iff.2 ptsL_nodup) (fun _ hx _ hy he => keyF_inj hb ((inBox_of hb.len).1 (h.1.mem_iff.1 hx)) ((inBox_of hb.len).1 (h.1.mem_iff.1 hy)) he) hc
 rw [← this]
 exact (List.Perm.filter _ h.1.symm).length_eq
end Go.Proofs.YtkliekoheeeamaaGreatDoor
