/- Lemmas and contracts, each under its own condition: The keys of the Hilbert order in plain words: numbers tell coordinates apart; they are ordered as the lists of their bits. Rank and Seq in plain words: keys tell coordinates apart, the sorted list is one, a rank is a place in it. The Hilbert order of cubes, computed: the coordinates with a key; neighbours differ by 1 along one dimension. SpaceHilbert in plain words: the sorted list of a cube's coordinates is the curve. SpaceHilbert in plain words: the cube, its neighbors' distances. -/
import Derived.Test.YtkliekoheeeamaaGreatDoorS10
import Derived.Test.YtkliekoheeeamaaGreatDoorS27
import Derived.Test.YtkliekoheeeamaaGreatDoorS44
/- The keys of the Hilbert order in plain words: numbers tell coordinates apart; they are ordered as the lists of their bits. -/
namespace Go.Proofs.YtkliekoheeeamaaGreatDoor
open Go.RowKit

theorem ofInt_nat (a : Nat) : BitVec.ofInt 64 (a : Int) = BitVec.ofNat 64 a := BitVec.ofInt_natCast 64 a
theorem bits_xor_nat {a b : Nat} (ha : a < 2 ^ 62) (hb : b < 2 ^ 62) : bits .xor .i64 (a : Int) (b : Int) = ((a ^^^ b : Nat) : Int) := by
 have e : bits .xor .i64 (a : Int) (b : Int) = IntKind.i64.wrap (((BitVec.ofInt 64 (a : Int) ^^^ BitVec.ofInt 64 (b : Int)).toNat : Nat) : Int) := rfl
 rw [e, ofInt_nat, ofInt_nat, BitVec.toNat_xor, BitVec.toNat_ofNat, BitVec.toNat_ofNat, Nat.mod_eq_of_lt (by omega), Nat.mod_eq_of_lt (by omega)]
 have := Nat.xor_lt_two_pow ha hb
 exact IntWalk.i64_in _ (by omega)
theorem bits_and_nat {a b : Nat} (ha : a < 2 ^ 62) (hb : b < 2 ^ 62) : bits .and .i64 (a : Int) (b : Int) = ((a &&& b : Nat) : Int) := by
 have e : bits .and .i64 (a : Int) (b : Int) = IntKind.i64.wrap (((BitVec.ofInt 64 (a : Int) &&& BitVec.ofInt 64 (b : Int)).toNat : Nat) : Int) := rfl
 rw [e, ofInt_nat, ofInt_nat, BitVec.toNat_and, BitVec.toNat_ofNat, BitVec.toNat_ofNat, Nat.mod_eq_of_lt (by omega), Nat.mod_eq_of_lt (by omega)]
 have := Nat.and_lt_two_pow a hb
 exact IntWalk.i64_in _ (by omega)
theorem bit_nat {a q : Nat} (ha : a < 2 ^ 62) : bits .and .i64 ((a : Int) / 2 ^ q) 1 = ((a / 2 ^ q % 2 : Nat) : Int) := by
 have h1 : a / 2 ^ q < 2 ^ 62 := Nat.lt_of_le_of_lt (Nat.div_le_self _ _) ha
 have e : ((a : Int) / 2 ^ q) = ((a / 2 ^ q : Nat) : Int) := by norm_cast
 rw [e, show (1 : Int) = ((1 : Nat) : Int) from rfl, bits_and_nat h1 (by decide), Nat.and_one_is_mod]
theorem bit_test (a q : Nat) : a / 2 ^ q % 2 = 1 ↔ a.testBit q = true := by
 rw [Nat.testBit_eq_decide_div_mod_eq, decide_eq_true_eq]

/-- one step of the inner loop -/
def stN (q i : Nat) (Y : List Nat) : List Nat :=
 if (Y.getD i 0).testBit q = true then Y.set 0 (Y.getD 0 0 ^^^ (2 ^ q - 1))
 else (Y.set 0 (Y.getD 0 0 ^^^ ((Y.getD 0 0 ^^^ Y.getD i 0) &&& (2 ^ q - 1)))).set i (Y.getD i 0 ^^^ ((Y.getD 0 0 ^^^ Y.getD i 0) &&& (2 ^ q - 1)))
def inN (q : Nat) : Nat → Nat → List Nat → List Nat
 | 0, _, Y => Y
 | m + 1, i, Y => inN q m (i + 1) (stN q i Y)
def outN (n : Nat) : Nat → List Nat → List Nat
 | 0, Y => Y
 | 1, Y => Y
 | p + 2, Y => outN n (p + 1) (inN (p + 1) n 0 Y)
def grayN : Nat → Nat → List Nat → List Nat
 | 0, _, Y => Y
 | m + 1, i, Y => grayN m (i + 1) (Y.set i (Y.getD i 0 ^^^ Y.getD (i - 1) 0))
def tN (z : Nat) : Nat → Nat → Nat
 | 0, t => t
 | 1, t => t
 | p + 2, t => tN z (p + 1) (if z.testBit (p + 1) = true then t ^^^ (2 ^ (p + 1) - 1) else t)
/-- the bits of a row of numbers, and of all rows from the p-th one down -/
def rowB (t q : Nat) (Y : List Nat) : List Nat := Y.map fun c => (c ^^^ t) / 2 ^ q % 2
def bitsB (t : Nat) (Y : List Nat) : Nat → List Nat
 | 0 => []
 | p + 1 => rowB t p Y ++ bitsB t Y p
/-- the bits of the key -/
def hilB (b : Nat) (y : List Nat) : List Nat :=
 let Y := grayN (y.length - 1) 1 (outN y.length b y)
 bitsB (tN (Y.getD (y.length - 1) 0) b 0) Y b
/-- a number of its bits -/
def numB (k : Nat) (l : List Nat) : Nat := l.foldl (fun k d => 2 * k + d) k
abbrev castL (Y : List Nat) : List Int := Y.map fun (x : Nat) => (x : Int)
theorem castL_getD (Y : List Nat) (i : Nat) : (castL Y).getD i 0 = ((Y.getD i 0 : Nat) : Int) := by
 rw [List.getD_eq_getElem?_getD, List.getD_eq_getElem?_getD, List.getElem?_map]
 cases Y[i]? <;> rfl
theorem castL_set (Y : List Nat) (i x : Nat) : (castL Y).set i (x : Int) = castL (Y.set i x) := by
 rw [castL, castL, List.map_set]
def SmallN (Y : List Nat) : Prop := ∀ y ∈ Y, y < 4096
theorem SmallN.getD {Y : List Nat} (h : SmallN Y) (i : Nat) : Y.getD i 0 < 4096 := by
 rw [List.getD_eq_getElem?_getD]
 cases hi : Y[i]? with
 | none => decide
 | some y => exact h y (List.mem_of_getElem? hi)
theorem SmallN.set {Y : List Nat} (h : SmallN Y) {i x : Nat} (hx : x < 4096) : SmallN (Y.set i x) := fun y hy => by
 rcases List.mem_or_eq_of_mem_set hy with h1 | h1
 ·exact h y h1
 ·rw [h1]; exact hx
theorem xor_small {a b : Nat} (ha : a < 4096) (hb : b < 4096) : a ^^^ b < 4096 := Nat.xor_lt_two_pow (n := 12) ha hb
theorem and_small {a b : Nat} (hb : b < 4096) : a &&& b < 4096 := Nat.and_lt_two_pow (n := 12) a hb
theorem low_small {q : Nat} (h : q ≤ 12) : 2 ^ q - 1 < 4096 := by
 have : (2 : Nat) ^ q ≤ 2 ^ 12 := Nat.pow_le_pow_right (by decide) h
 omega
theorem low_cast (q : Nat) : ((2 : Int) ^ q - 1) = ((2 ^ q - 1 : Nat) : Int) := by
 have : 1 ≤ 2 ^ q := Nat.one_le_two_pow
 rw [Int.natCast_sub this]
 norm_cast
theorem stZ_nat {q i : Nat} {Y : List Nat} (hY : SmallN Y) (hq : q ≤ 12) : stepZ q i (castL Y) = castL (stN q i Y) ∧ SmallN (stN q i Y) := by
 have h0 := hY.getD 0
 have hi := hY.getD i
 have hl := low_small hq
 have k0 : Y.getD 0 0 < 2 ^ 62 := by omega
 have ki : Y.getD i 0 < 2 ^ 62 := by omega
 have kl : 2 ^ q - 1 < 2 ^ 62 := by omega
 unfold stepZ stN
 rw [castL_getD, castL_getD, bit_nat ki, low_cast, bits_xor_nat k0 kl, bits_xor_nat k0 ki]
 have x1 : (Y.getD 0 0 ^^^ Y.getD i 0) < 4096 := xor_small h0 hi
 have a1 : ((Y.getD 0 0 ^^^ Y.getD i 0) &&& (2 ^ q - 1)) < 4096 := and_small hl
 rw [bits_and_nat (by omega) kl, bits_xor_nat k0 (by omega)]
 by_cases hb : (Y.getD i 0).testBit q = true
 ·rw [if_pos hb, if_pos (by rw [(bit_test _ _).2 hb]; rfl), castL_set]
  exact ⟨rfl, hY.set (xor_small h0 hl)⟩
 ·rw [if_neg hb, if_neg (by
   intro hc
   exact hb ((bit_test _ _).1 (by exact_mod_cast hc))), castL_set, castL_getD]
  have x2 := xor_small h0 a1
  have e2 : (Y.set 0 (Y.getD 0 0 ^^^ ((Y.getD 0 0 ^^^ Y.getD i 0) &&& (2 ^ q - 1)))).getD i 0 ^^^ ((Y.getD 0 0 ^^^ Y.getD i 0) &&& (2 ^ q - 1)) = if i = 0 then (Y.set 0 (Y.getD 0 0 ^^^ ((Y.getD 0 0 ^^^ Y.getD i 0) &&& (2 ^ q - 1)))).getD i 0 ^^^ ((Y.getD 0 0 ^^^ Y.getD i 0) &&& (2 ^ q - 1)) else Y.getD i 0 ^^^ ((Y.getD 0 0 ^^^ Y.getD i 0) &&& (2 ^ q - 1)) := by
   split
   ·rfl
   ·rename_i hne
    rw [List.getD_eq_getElem?_getD, List.getElem?_set_ne (Ne.symm hne), ← List.getD_eq_getElem?_getD]
  have hs := (hY.set (i := 0) x2).getD i
  rw [bits_xor_nat (by omega) (by omega), castL_set]
  by_cases h9 : i = 0
  ·subst h9
   have e3 : ((Y.getD 0 0 ^^^ Y.getD 0 0) &&& (2 ^ q - 1)) = 0 := by rw [Nat.xor_self, Nat.zero_and]
   rw [e3, Nat.xor_zero, Nat.xor_zero]
   have e4 : ((Y.set 0 (Y.getD 0 0)).set 0 ((Y.set 0 (Y.getD 0 0)).getD 0 0)) = (Y.set 0 (Y.getD 0 0)).set 0 (Y.getD 0 0) := by
    cases Y <;> rfl
   rw [e4]
   exact ⟨rfl, (hY.set h0).set h0⟩
  ·rw [e2, if_neg h9]
   exact ⟨rfl, (hY.set x2).set (xor_small hi a1)⟩
theorem stN_length (q i : Nat) (Y : List Nat) : (stN q i Y).length = Y.length := by
 unfold stN
 split <;> simp
theorem inZ_nat {q : Nat} (hq : q ≤ 12) : ∀ (m i : Nat) {Y : List Nat}, SmallN Y → inR q m i (castL Y) = castL (inN q m i Y) ∧ SmallN (inN q m i Y) ∧ (inN q m i Y).length = Y.length
 | 0, _, _, h => ⟨rfl, h, rfl⟩
 | m + 1, i, Y, h => by
  obtain ⟨e, h2⟩ := stZ_nat (i := i) h hq
  obtain ⟨e3, h3, h4⟩ := inZ_nat hq m (i + 1) h2
  rw [inR, inN, e]
  exact ⟨e3, h3, by rw [h4, stN_length]⟩
theorem outZ_nat (n : Nat) : ∀ (p : Nat) {Y : List Nat}, p ≤ 13 → SmallN Y → outR n p (castL Y) = castL (outN n p Y) ∧ SmallN (outN n p Y) ∧ (outN n p Y).length = Y.length
 | 0, _, _, h => ⟨rfl, h, rfl⟩
 | 1, _, _, h => ⟨rfl, h, rfl⟩
 | p + 2, Y, hp, h => by
  obtain ⟨e, h2, h3⟩ := inZ_nat (q := p + 1) (by omega) n 0 h
  obtain ⟨e4, h5, h6⟩ := outZ_nat n (p + 1) (by omega) h2
  rw [outR, outN, e]
  exact ⟨e4, h5, by rw [h6, h3]⟩
theorem grayZ_nat : ∀ (m i : Nat) {Y : List Nat}, SmallN Y → grayR m i (castL Y) = castL (grayN m i Y) ∧ SmallN (grayN m i Y) ∧ (grayN m i Y).length = Y.length
 | 0, _, _, h => ⟨rfl, h, rfl⟩
 | m + 1, i, Y, h => by
  have h1 := h.getD i
  have h2 := h.getD (i - 1)
  obtain ⟨e4, h5, h6⟩ := grayZ_nat m (i + 1) (h.set (i := i) (xor_small h1 h2))
  rw [grayR, grayN, castL_getD, castL_getD, bits_xor_nat (by omega) (by omega), castL_set]
  exact ⟨e4, h5, by rw [h6, List.length_set]⟩
theorem tZ_nat (z : Nat) (hz : z < 4096) : ∀ (p : Nat) {t : Nat}, p ≤ 13 → t < 4096 → tR (z : Int) p (t : Int) = ((tN z p t : Nat) : Int) ∧ tN z p t < 4096
 | 0, _, _, h => ⟨rfl, h⟩
 | 1, _, _, h => ⟨rfl, h⟩
 | p + 2, t, hp, h => by
  have hl := low_small (q := p + 1) (by omega)
  have hx := xor_small h hl
  rw [tR, tN, bit_nat (by omega), low_cast, bits_xor_nat (by omega) (by omega)]
  by_cases hb : z.testBit (p + 1) = true
  ·rw [if_pos hb, if_pos (by rw [(bit_test _ _).2 hb]; rfl)]
   exact tZ_nat z hz (p + 1) (by omega) hx
  ·rw [if_neg hb, if_neg (by
    intro hc
    exact hb ((bit_test _ _).1 (by exact_mod_cast hc)))]
   exact tZ_nat z hz (p + 1) (by omega) h
theorem numB_append (k : Nat) (a b : List Nat) : numB k (a ++ b) = numB (numB k a) b := List.foldl_append
theorem rowZ_nat {t q : Nat} (ht : t < 4096) : ∀ {Y : List Nat} {k : Nat}, SmallN Y → rowK (t : Int) q (k : Int) (castL Y) = ((numB k (rowB t q Y) : Nat) : Int)
 | [], _, _ => rfl
 | c :: l, k, h => by
  have hc := h c (by simp)
  have hx := xor_small hc ht
  have ih := rowZ_nat (q := q) ht (Y := l) (k := 2 * k + (c ^^^ t) / 2 ^ q % 2) (fun y hy => h y (by simp [hy]))
  show rowK (t : Int) q (2 * (k : Int) + bits .and .i64 (bits .xor .i64 (c : Int) (t : Int) / 2 ^ q) 1) (castL l) = _
  rw [bits_xor_nat (by omega) (by omega), bit_nat (by omega)]
  have e : (2 * (k : Int) + (((c ^^^ t) / 2 ^ q % 2 : Nat) : Int)) = ((2 * k + (c ^^^ t) / 2 ^ q % 2 : Nat) : Int) := by omega
  rw [e, ih]
  rfl
theorem keyZ_nat {t : Nat} (ht : t < 4096) {Y : List Nat} (h : SmallN Y) : ∀ (p k : Nat), keyR (t : Int) (castL Y) p (k : Int) = ((numB k (bitsB t Y p) : Nat) : Int)
 | 0, _ => rfl
 | p + 1, k => by
  rw [keyR, rowZ_nat ht h, keyZ_nat ht h p, bitsB, numB_append]
theorem hilZ_nat {b : Nat} {y : List Nat} (h : SmallN y) (hb : b ≤ 12) : hilZ b (castL y) = ((numB 0 (hilB b y) : Nat) : Int) := by
 unfold hilZ hilB
 simp only [castL, List.length_map]
 obtain ⟨e1, h1, l1⟩ := outZ_nat y.length b (by omega) h
 obtain ⟨e2, h2, l2⟩ := grayZ_nat (y.length - 1) 1 h1
 rw [show List.map (fun (x : Nat) => (x : Int)) y = castL y from rfl, e1, e2, castL_getD]
 obtain ⟨e3, h3⟩ := tZ_nat _ (h2.getD (y.length - 1)) b (t := 0) (by omega) (by decide)
 rw [show (0 : Int) = ((0 : Nat) : Int) from rfl, e3, keyZ_nat h3 h2]

/-- lists of bits of one length are compared as their numbers are -/
def BitL (l : List Nat) : Prop := ∀ d ∈ l, d < 2
theorem numB_lt : ∀ {l : List Nat} {k : Nat}, BitL l → numB k l < (k + 1) * 2 ^ l.length
 | [], k, _ => by simp [numB]
 | d :: l, k, h => by
  have hd := h d (by simp)
  have ih := numB_lt (l := l) (k := 2 * k + d) (fun x hx => h x (by simp [hx]))
  show numB (2 * k + d) l < _
  refine Nat.lt_of_lt_of_le ih ?_
  rw [List.length_cons, Nat.pow_succ, Nat.mul_comm (2 ^ l.length) 2, ← Nat.mul_assoc]
  exact Nat.mul_le_mul_right _ (by omega)
theorem numB_ge : ∀ {l : List Nat} {k : Nat}, k * 2 ^ l.length ≤ numB k l
 | [], k => by simp [numB]
 | d :: l, k => by
  have ih := numB_ge (l := l) (k := 2 * k + d)
  show _ ≤ numB (2 * k + d) l
  refine Nat.le_trans ?_ ih
  rw [List.length_cons, Nat.pow_succ, Nat.mul_comm (2 ^ l.length) 2, ← Nat.mul_assoc]
  exact Nat.mul_le_mul_right _ (by omega)
theorem cmp_bits : ∀ {a b : List Nat} {k : Nat}, BitL a → BitL b → a.length = b.length → cmpI (castL a) (castL b) = cmpI [((numB k a : Nat) : Int)] [((numB k b : Nat) : Int)]
 | [], [], k, _, _, _ => by simp [cmpI, numB]
 | [], _ :: _, _, _, _, h => by simp at h
 | _ :: _, [], _, _, _, h => by simp at h
 | x :: a, y :: b, k, ha, hb, h => by
  have hl : a.length = b.length := by simpa using h
  have hx := ha x (by simp)
  have hy := hb y (by simp)
  have ha' : BitL a := fun z hz => ha z (by simp [hz])
  have hb' : BitL b := fun z hz => hb z (by simp [hz])
  have g1 := numB_lt (k := 2 * k + x) ha'
  have g2 := numB_ge (l := b) (k := 2 * k + y)
  have g3 := numB_lt (k := 2 * k + y) hb'
  have g4 := numB_ge (l := a) (k := 2 * k + x)
  rw [hl] at g1 g4
  show cmpI ((x : Int) :: castL a) ((y : Int) :: castL b) = cmpI [((numB (2 * k + x) a : Nat) : Int)] [((numB (2 * k + y) b : Nat) : Int)]
  by_cases h1 : x < y
  ·have : numB (2 * k + x) a < numB (2 * k + y) b := Nat.lt_of_lt_of_le g1 (Nat.le_trans (Nat.mul_le_mul_right _ (by omega)) g2)
   rw [cmpI, if_pos (by omega), cmpI, if_pos (by omega)]
  ·by_cases h2 : y < x
   ·have : numB (2 * k + y) b < numB (2 * k + x) a := Nat.lt_of_lt_of_le g3 (Nat.le_trans (Nat.mul_le_mul_right _ (by omega)) g4)
    rw [cmpI, if_neg (by omega), if_pos (by omega), cmpI, if_neg (by omega), if_pos (by omega)]
   ·obtain rfl : x = y := by omega
    rw [cmpI, if_neg (by omega), if_neg (by omega)]
    exact cmp_bits ha' hb' hl
theorem rowB_bit (t q : Nat) (Y : List Nat) : BitL (rowB t q Y) := fun d hd => by
 obtain ⟨c, -, rfl⟩ := List.mem_map.1 hd
 exact Nat.mod_lt _ (by decide)
theorem bitsB_bit (t : Nat) (Y : List Nat) : ∀ p, BitL (bitsB t Y p)
 | 0 => fun d hd => by cases hd
 | p + 1 => fun d hd => by
  rcases List.mem_append.1 hd with h | h
  ·exact rowB_bit t p Y d h
  ·exact bitsB_bit t Y p d h
theorem bitsB_length (t : Nat) (Y : List Nat) : ∀ p, (bitsB t Y p).length = p * Y.length
 | 0 => by simp [bitsB]
 | p + 1 => by rw [bitsB, List.length_append, bitsB_length t Y p, rowB, List.length_map, Nat.add_mul, Nat.one_mul, Nat.add_comm]
theorem hilB_bit (b : Nat) (y : List Nat) : BitL (hilB b y) := bitsB_bit _ _ _
theorem hilB_length {b : Nat} {y : List Nat} (h : SmallN y) (hb : b ≤ 12) : (hilB b y).length = b * y.length := by
 unfold hilB
 obtain ⟨-, h1, l1⟩ := outZ_nat y.length b (by omega) h
 obtain ⟨-, h2, l2⟩ := grayZ_nat (y.length - 1) 1 h1
 rw [bitsB_length, l2, l1]
/-- numbers and lists of bits are ordered alike -/
theorem hil_cmp {b : Nat} {x y : List Nat} (hx : SmallN x) (hy : SmallN y) (hb : b ≤ 12) (hl : x.length = y.length) : cmpI [hilZ b (castL x)] [hilZ b (castL y)] = cmpI (castL (hilB b x)) (castL (hilB b y)) := by
 rw [hilZ_nat hx hb, hilZ_nat hy hb]
 exact (cmp_bits (hilB_bit b x) (hilB_bit b y) (by rw [hilB_length hx hb, hilB_length hy hb, hl])).symm

/-- keys tell coordinates apart -/
theorem testBit_low (q j : Nat) : (2 ^ q - 1).testBit j = decide (j < q) := Nat.testBit_two_pow_sub_one q j
theorem getD_set_self {Y : List Nat} {i x : Nat} (h : i < Y.length) : (Y.set i x).getD i 0 = x := by
 rw [List.getD_eq_getElem?_getD, List.getElem?_set_self h]; rfl
theorem getD_set_ne {Y : List Nat} {i j x : Nat} (h : i ≠ j) : (Y.set i x).getD j 0 = Y.getD j 0 := by
 rw [List.getD_eq_getElem?_getD, List.getElem?_set_ne h, ← List.getD_eq_getElem?_getD]
theorem set_getD (Y : List Nat) (i : Nat) : Y.set i (Y.getD i 0) = Y := by
 apply List.ext_getElem?
 intro k
 by_cases h : i = k
 ·subst h
  by_cases hi : i < Y.length
  ·rw [List.getElem?_set_self hi, List.getD_eq_getElem?_getD, List.getElem?_eq_getElem hi]; rfl
  ·rw [List.getElem?_eq_none (by simp; omega), List.getElem?_eq_none (by omega)]
 ·rw [List.getElem?_set_ne h]
theorem xor_cancel (a b : Nat) : a ^^^ b ^^^ b = a := by rw [Nat.xor_assoc, Nat.xor_self, Nat.xor_zero]
theorem low_bit (a q : Nat) : (a ^^^ (2 ^ q - 1)).testBit q = a.testBit q := by
 rw [Nat.testBit_xor, testBit_low]; simp
theorem lowa_bit (a b q : Nat) : (a ^^^ (b &&& (2 ^ q - 1))).testBit q = a.testBit q := by
 rw [Nat.testBit_xor, Nat.testBit_and, testBit_low]; simp
theorem stN_twice {q i : Nat} {Y : List Nat} (hi : i < Y.length) : stN q i (stN q i Y) = Y := by
 have h0 : 0 < Y.length := by omega
 by_cases hb : (Y.getD i 0).testBit q = true
 ·have e1 : stN q i Y = Y.set 0 (Y.getD 0 0 ^^^ (2 ^ q - 1)) := by unfold stN; rw [if_pos hb]
  have hb2 : ((Y.set 0 (Y.getD 0 0 ^^^ (2 ^ q - 1))).getD i 0).testBit q = true := by
   by_cases e : i = 0
   ·subst e
    rw [getD_set_self hi, low_bit]; exact hb
   ·rw [getD_set_ne (Ne.symm e)]; exact hb
  rw [e1]
  unfold stN
  rw [if_pos hb2, getD_set_self h0, xor_cancel, List.set_set, set_getD]
 ·by_cases e : i = 0
  ·subst e
   have e1 : stN q 0 Y = Y := by
    unfold stN
    rw [if_neg hb, Nat.xor_self, Nat.zero_and, Nat.xor_zero, set_getD, set_getD]
   rw [e1, e1]
  ·have e1 : stN q i Y = (Y.set 0 (Y.getD 0 0 ^^^ ((Y.getD 0 0 ^^^ Y.getD i 0) &&& (2 ^ q - 1)))).set i (Y.getD i 0 ^^^ ((Y.getD 0 0 ^^^ Y.getD i 0) &&& (2 ^ q - 1))) := by unfold stN; rw [if_neg hb]
   rw [e1]
   generalize ht : (Y.getD 0 0 ^^^ Y.getD i 0) &&& (2 ^ q - 1) = t
   have f0 : ((Y.set 0 (Y.getD 0 0 ^^^ t)).set i (Y.getD i 0 ^^^ t)).getD 0 0 = Y.getD 0 0 ^^^ t := by
    rw [getD_set_ne e, getD_set_self h0]
   have fi : ((Y.set 0 (Y.getD 0 0 ^^^ t)).set i (Y.getD i 0 ^^^ t)).getD i 0 = Y.getD i 0 ^^^ t := by
    rw [getD_set_self (by simpa using hi)]
   have et : ((Y.getD 0 0 ^^^ t) ^^^ (Y.getD i 0 ^^^ t)) = (Y.getD 0 0 ^^^ Y.getD i 0) := by
    rw [Nat.xor_comm (Y.getD i 0) t, ← Nat.xor_assoc, xor_cancel]
   unfold stN
   rw [f0, fi, if_neg (by rw [← ht, lowa_bit]; exact hb), et, ht, xor_cancel, xor_cancel]
   have eA : ((Y.set 0 (Y.getD 0 0 ^^^ t)).set i (Y.getD i 0 ^^^ t)).set 0 (Y.getD 0 0) = Y.set i (Y.getD i 0 ^^^ t) := by
    rw [List.set_comm _ _ e, List.set_set, set_getD]
   rw [eA, List.set_set, set_getD]
theorem stN_inj {q i : Nat} {Y Z : List Nat} (hi : i < Y.length) (hl : Y.length = Z.length) (h : stN q i Y = stN q i Z) : Y = Z := by
 rw [← stN_twice (q := q) hi, h, stN_twice (by omega)]
theorem inN_inj {q : Nat} : ∀ (m i : Nat) {Y Z : List Nat}, i + m ≤ Y.length → Y.length = Z.length → inN q m i Y = inN q m i Z → Y = Z
 | 0, _, _, _, _, _, h => h
 | m + 1, i, Y, Z, hi, hl, h => stN_inj (by omega) hl (inN_inj m (i + 1) (by rw [stN_length]; omega) (by rw [stN_length, stN_length, hl]) h)
theorem inN_length {q : Nat} : ∀ (m i : Nat) (Y : List Nat), (inN q m i Y).length = Y.length
 | 0, _, _ => rfl
 | m + 1, i, Y => by rw [inN, inN_length, stN_length]
theorem outN_inj {n : Nat} : ∀ (p : Nat) {Y Z : List Nat}, Y.length = n → Z.length = n → outN n p Y = outN n p Z → Y = Z
 | 0, _, _, _, _, h => h
 | 1, _, _, _, _, h => h
 | p + 2, Y, Z, h1, h2, h => inN_inj n 0 (by omega) (by omega) (outN_inj (p + 1) (by rw [inN_length, h1]) (by rw [inN_length, h2]) h)
theorem outN_length {n : Nat} : ∀ (p : Nat) (Y : List Nat), (outN n p Y).length = Y.length
 | 0, _ => rfl
 | 1, _ => rfl
 | p + 2, Y => by rw [outN, outN_length, inN_length]
theorem gray_inj1 {i : Nat} {Y Z : List Nat} (hi : 0 < i) (hl : Y.length = Z.length) (hn : i < Y.length) (h : Y.set i (Y.getD i 0 ^^^ Y.getD (i - 1) 0) = Z.set i (Z.getD i 0 ^^^ Z.getD (i - 1) 0)) : Y = Z := by
 have g1 : ∀ k, k ≠ i → Y.getD k 0 = Z.getD k 0 := fun k hk => by
  have := congrArg (fun L => L.getD k 0) h
  rwa [getD_set_ne (Ne.symm hk), getD_set_ne (Ne.symm hk)] at this
 have g2 := congrArg (fun L => L.getD i 0) h
 rw [getD_set_self hn, getD_set_self (by omega), g1 (i - 1) (by omega)] at g2
 have g3 : Y.getD i 0 = Z.getD i 0 := by rw [← xor_cancel (Y.getD i 0) (Z.getD (i - 1) 0), g2, xor_cancel]
 have h2 := congrArg (fun L => L.set i (Y.getD i 0)) h
 simp only [List.set_set] at h2
 rw [set_getD] at h2
 rw [h2, g3, set_getD]
theorem grayN_inj : ∀ (m i : Nat) {Y Z : List Nat}, 0 < i → i + m ≤ Y.length → Y.length = Z.length → grayN m i Y = grayN m i Z → Y = Z
 | 0, _, _, _, _, _, _, h => h
 | m + 1, i, Y, Z, h0, hi, hl, h => gray_inj1 h0 hl (by omega) (grayN_inj m (i + 1) (by omega) (by rw [List.length_set]; omega) (by rw [List.length_set, List.length_set, hl]) h)
theorem grayN_length : ∀ (m i : Nat) (Y : List Nat), (grayN m i Y).length = Y.length
 | 0, _, _ => rfl
 | m + 1, i, Y => by rw [grayN, grayN_length, List.length_set]
theorem tN_high (z : Nat) : ∀ (p t j : Nat), p ≤ j + 1 → (tN z p t).testBit j = t.testBit j
 | 0, _, _, _ => rfl
 | 1, _, _, _ => rfl
 | p + 2, t, j, h => by
  rw [tN, tN_high z (p + 1) _ j (by omega)]
  split
  ·rw [Nat.testBit_xor, testBit_low, decide_eq_false (by omega), Bool.xor_false]
  ·rfl
theorem tN_inj : ∀ (p : Nat) {y z t : Nat}, y / 2 ^ p = z / 2 ^ p → y ^^^ tN y p t = z ^^^ tN z p t → y = z
 | 0, y, z, t, h, _ => by simpa using h
 | 1, y, z, t, _, h => by
  have := congrArg (fun x => x ^^^ t) h
  simpa [tN, xor_cancel] using this
 | p + 2, y, z, t, h, he => by
  have hb := congrArg (fun x => x.testBit (p + 1)) he
  rw [Nat.testBit_xor, Nat.testBit_xor, tN_high _ _ _ _ (by omega), tN_high _ _ _ _ (by omega)] at hb
  have hb2 : y.testBit (p + 1) = z.testBit (p + 1) := by
   cases hy : y.testBit (p + 1) <;> cases hz : z.testBit (p + 1) <;> cases ht : t.testBit (p + 1) <;> simp_all
  have hd : y / 2 ^ (p + 1) = z / 2 ^ (p + 1) := by
   have e1 : y / 2 ^ (p + 2) = y / 2 ^ (p + 1) / 2 := by rw [Nat.div_div_eq_div_mul, ← Nat.pow_succ]
   have e2 : z / 2 ^ (p + 2) = z / 2 ^ (p + 1) / 2 := by rw [Nat.div_div_eq_div_mul, ← Nat.pow_succ]
   have h1 : y / 2 ^ (p + 1) % 2 = 1 ↔ z / 2 ^ (p + 1) % 2 = 1 := by rw [bit_test, bit_test, hb2]
   rw [e1, e2] at h
   omega
  rw [tN, tN, ← hb2] at he
  exact tN_inj (p + 1) hd he
theorem list_get {Y Z : List Nat} (hl : Y.length = Z.length) (h : ∀ i, i < Y.length → Y.getD i 0 = Z.getD i 0) : Y = Z := by
 apply List.ext_getElem?
 intro k
 by_cases hk : k < Y.length
 ·have := h k hk
  rw [List.getD_eq_getElem?_getD, List.getD_eq_getElem?_getD, List.getElem?_eq_getElem hk, List.getElem?_eq_getElem (by omega)] at this
  rw [List.getElem?_eq_getElem hk, List.getElem?_eq_getElem (by omega)]
  exact congrArg some this
 ·rw [List.getElem?_eq_none (by omega), List.getElem?_eq_none (by omega)]
theorem rowB_eq {t t' q : Nat} {Y Z : List Nat} (h : rowB t q Y = rowB t' q Z) (i : Nat) (hi : i < Y.length) (hj : i < Z.length) : (Y.getD i 0 ^^^ t).testBit q = (Z.getD i 0 ^^^ t').testBit q := by
 have := congrArg (fun l => l[i]?) h
 simp only [rowB, List.getElem?_map, List.getElem?_eq_getElem hi, List.getElem?_eq_getElem hj, Option.map_some, Option.some.injEq] at this
 rw [List.getD_eq_getElem?_getD, List.getD_eq_getElem?_getD, List.getElem?_eq_getElem hi, List.getElem?_eq_getElem hj]
 simp only [Option.getD_some]
 rw [Nat.testBit_eq_decide_div_mod_eq, Nat.testBit_eq_decide_div_mod_eq, this]
theorem bitsB_inj {t t' : Nat} {Y Z : List Nat} (hl : Y.length = Z.length) : ∀ (p : Nat), bitsB t Y p = bitsB t' Z p → ∀ q, q < p → ∀ i, i < Y.length → (Y.getD i 0 ^^^ t).testBit q = (Z.getD i 0 ^^^ t').testBit q
 | 0, _, q, hq, _, _ => by omega
 | p + 1, h, q, hq, i, hi => by
  rw [bitsB, bitsB] at h
  obtain ⟨h1, h2⟩ := List.append_inj h (by simp [rowB, hl])
  by_cases e : q = p
  ·subst e
   exact rowB_eq h1 i hi (by omega)
  ·exact bitsB_inj hl p h2 q (by omega) i hi
def BelowN (b : Nat) (Y : List Nat) : Prop := ∀ y ∈ Y, y < 2 ^ b
theorem BelowN.getD {b : Nat} {Y : List Nat} (h : BelowN b Y) (i : Nat) : Y.getD i 0 < 2 ^ b := by
 rw [List.getD_eq_getElem?_getD]
 cases hi : Y[i]? with
 | none => exact Nat.two_pow_pos b
 | some y => exact h y (List.mem_of_getElem? hi)
theorem BelowN.set {b : Nat} {Y : List Nat} (h : BelowN b Y) {i x : Nat} (hx : x < 2 ^ b) : BelowN b (Y.set i x) := fun y hy => by
 rcases List.mem_or_eq_of_mem_set hy with h1 | h1
 ·exact h y h1
 ·rw [h1]; exact hx
theorem low_lt {q b : Nat} (h : q ≤ b) : 2 ^ q - 1 < 2 ^ b := by
 have : (2 : Nat) ^ q ≤ 2 ^ b := Nat.pow_le_pow_right (by decide) h
 have := Nat.two_pow_pos q
 omega
theorem stN_below {b q i : Nat} {Y : List Nat} (h : BelowN b Y) (hq : q ≤ b) : BelowN b (stN q i Y) := by
 have h0 := h.getD 0
 have hi := h.getD i
 have hl := low_lt hq
 unfold stN
 split
 ·exact h.set (Nat.xor_lt_two_pow h0 hl)
 ·exact (h.set (Nat.xor_lt_two_pow h0 (Nat.and_lt_two_pow _ hl))).set (Nat.xor_lt_two_pow hi (Nat.and_lt_two_pow _ hl))
theorem inN_below {b q : Nat} (hq : q ≤ b) : ∀ (m i : Nat) {Y : List Nat}, BelowN b Y → BelowN b (inN q m i Y)
 | 0, _, _, h => h
 | m + 1, i, _, h => inN_below hq m (i + 1) (stN_below h hq)
theorem outN_below {b n : Nat} : ∀ (p : Nat) {Y : List Nat}, p ≤ b + 1 → BelowN b Y → BelowN b (outN n p Y)
 | 0, _, _, h => h
 | 1, _, _, h => h
 | p + 2, _, hp, h => outN_below (p + 1) (by omega) (inN_below (by omega) n 0 h)
theorem grayN_below {b : Nat} : ∀ (m i : Nat) {Y : List Nat}, BelowN b Y → BelowN b (grayN m i Y)
 | 0, _, _, h => h
 | m + 1, i, _, h => grayN_below m (i + 1) (h.set (Nat.xor_lt_two_pow (h.getD i) (h.getD (i - 1))))
theorem tN_below {b : Nat} (z : Nat) : ∀ (p : Nat) {t : Nat}, p ≤ b + 1 → t < 2 ^ b → tN z p t < 2 ^ b
 | 0, _, _, h => h
 | 1, _, _, h => h
 | p + 2, t, hp, h => by
  rw [tN]
  refine tN_below z (p + 1) (by omega) ?_
  split
  ·exact Nat.xor_lt_two_pow h (low_lt (by omega))
  ·exact h
theorem xor_eq_of {b x y : Nat} (hx : x < 2 ^ b) (hy : y < 2 ^ b) (h : ∀ q, q < b → x.testBit q = y.testBit q) : x = y := by
 refine Nat.eq_of_testBit_eq fun q => ?_
 by_cases hq : q < b
 ·exact h q hq
 ·have hp : 2 ^ b ≤ 2 ^ q := Nat.pow_le_pow_right (by decide) (by omega)
  rw [Nat.testBit_lt_two_pow (by omega), Nat.testBit_lt_two_pow (by omega)]
theorem hilB_inj {b : Nat} {x y : List Nat} (hx : BelowN b x) (hy : BelowN b y) (hl : x.length = y.length) (h : hilB b x = hilB b y) : x = y := by
 rcases Nat.eq_zero_or_pos x.length with h0 | h0
 ·rw [List.length_eq_zero_iff.1 h0, List.length_eq_zero_iff.1 (show y.length = 0 by omega)]
 unfold hilB at h
 simp only at h
 rw [← hl] at h
 have bx := grayN_below (x.length - 1) 1 (outN_below (n := x.length) b (by omega) hx)
 have by' := grayN_below (x.length - 1) 1 (outN_below (n := x.length) b (by omega) hy)
 have lx : (grayN (x.length - 1) 1 (outN x.length b x)).length = x.length := by rw [grayN_length, outN_length]
 have ly : (grayN (x.length - 1) 1 (outN x.length b y)).length = x.length := by rw [grayN_length, outN_length, hl]
 have key : grayN (x.length - 1) 1 (outN x.length b x) = grayN (x.length - 1) 1 (outN x.length b y) := by
  generalize grayN (x.length - 1) 1 (outN x.length b x) = X at *
  generalize grayN (x.length - 1) 1 (outN x.length b y) = Y at *
  have tx := tN_below (b := b) (X.getD (x.length - 1) 0) b (t := 0) (by omega) (Nat.two_pow_pos b)
  have ty := tN_below (b := b) (Y.getD (x.length - 1) 0) b (t := 0) (by omega) (Nat.two_pow_pos b)
  have H : ∀ i, i < x.length → X.getD i 0 ^^^ tN (X.getD (x.length - 1) 0) b 0 = Y.getD i 0 ^^^ tN (Y.getD (x.length - 1) 0) b 0 := fun i hi =>
   xor_eq_of (Nat.xor_lt_two_pow (bx.getD i) tx) (Nat.xor_lt_two_pow (by'.getD i) ty) fun q hq => bitsB_inj (by omega) b h q hq i (by omega)
  have h1 := tN_inj b (by rw [Nat.div_eq_of_lt (bx.getD _), Nat.div_eq_of_lt (by'.getD _)]) (H (x.length - 1) (by omega))
  refine list_get (by omega) fun i hi => ?_
  have h2 := H i (by omega)
  rw [h1] at h2
  rw [← xor_cancel (X.getD i 0) (tN (Y.getD (x.length - 1) 0) b 0), h2, xor_cancel]
 exact outN_inj b rfl hl.symm (grayN_inj _ 1 (by decide) (by rw [outN_length]; omega) (by rw [outN_length, outN_length, hl]) key)
end Go.Proofs.YtkliekoheeeamaaGreatDoor
/- Rank and Seq in plain words: keys tell coordinates apart, the sorted list is one, a rank is a place in it. -/
namespace Go.Proofs.YtkliekoheeeamaaGreatDoor
open Go.RowKit

theorem ptsL_nodup : ∀ {lo hi : List Int}, (ptsL lo hi).Nodup
 | [], _ => by simp [ptsL]
 | _ :: _, [] => by simp [ptsL]
 | l :: ls, h :: hs => by
  have ih := ptsL_nodup (lo := ls) (hi := hs)
  rw [ptsL]
  unfold List.Nodup
  rw [List.pairwise_flatMap]
  refine ⟨fun k _ => ?_, ?_⟩
  ·rw [List.pairwise_map]
   exact ih.imp fun {a b} hab e => hab (by injection e)
  ·refine List.pairwise_lt_range.imp fun {a b} hab x hx y hy e => ?_
   obtain ⟨u, -, rfl⟩ := List.mem_map.1 hx
   obtain ⟨v, -, rfl⟩ := List.mem_map.1 hy
   injection e with e1 _
   omega
theorem bitAux_lt : ∀ (f x : Nat), x < 2 ^ f → x < 2 ^ Lib.bitLenAux f x
 | 0, x, h => by simpa [Lib.bitLenAux] using h
 | f + 1, x, h => by
  rw [Lib.bitLenAux]
  split
  ·rename_i h0
   subst h0; decide
  ·have := bitAux_lt f (x / 2) (by rw [Nat.pow_succ] at h; omega)
   rw [Nat.add_comm, Nat.pow_succ]
   omega
theorem bitLen_lt {x : Nat} (h : x < 4096) : x < 2 ^ Lib.bitLen x := bitAux_lt 64 x (Nat.lt_of_lt_of_le h (by decide))
theorem bitsL_ge : ∀ {m : Nat} {lo hi : List Int}, m ≤ bitsL m lo hi
 | m, [], _ => Nat.le_refl _
 | m, _ :: _, [] => Nat.le_refl _
 | m, l :: ls, h :: hs => by
  have := bitsL_ge (m := max m (Lib.bitLen (h - l).toNat)) (lo := ls) (hi := hs)
  rw [bitsL]
  omega
theorem bitsL_get : ∀ {m i : Nat} {lo hi : List Int} {l h : Int}, lo[i]? = some l → hi[i]? = some h → Lib.bitLen (h - l).toNat ≤ bitsL m lo hi
 | m, 0, a :: ls, b :: hs, l, h, hl, hh => by
  simp only [List.getElem?_cons_zero, Option.some.injEq] at hl hh
  subst hl hh
  have := bitsL_ge (m := max m (Lib.bitLen (b - a).toNat)) (lo := ls) (hi := hs)
  rw [bitsL]
  omega
 | m, i + 1, a :: ls, b :: hs, l, h, hl, hh => by
  rw [bitsL]
  exact bitsL_get (by simpa using hl) (by simpa using hh)
 | _, _, [], _, _, _, hl, _ => by simp at hl
 | _, _, _ :: _, [], _, _, _, hh => by simp at hh
/-- the numbers of coordinates in a box -/
def natL (x lo : List Int) : List Nat := (subL x lo).map Int.toNat
structure InBox (lo hi x : List Int) : Prop where
 len : x.length = lo.length
 each : ∀ (i : Nat) (a b y : Int), lo[i]? = some a → hi[i]? = some b → x[i]? = some y → a ≤ y ∧ y ≤ b
theorem subL_some {x lo : List Int} {i : Nat} {y : Int} (h : (subL x lo)[i]? = some y) : ∃ a b, x[i]? = some a ∧ lo[i]? = some b ∧ y = a - b := by
 induction x generalizing lo i with
 | nil => simp [subL] at h
 | cons a x ih => cases lo with
  | nil => simp [subL] at h
  | cons b lo => cases i with
   | zero =>
    simp only [subL, List.getElem?_cons_zero, Option.some.injEq] at h
    exact ⟨a, b, rfl, rfl, h.symm⟩
   | succ i => exact ih (by simpa [subL] using h)
theorem natL_cast {lo hi x : List Int} (hl : lo.length = hi.length) (h : InBox lo hi x) : castL (natL x lo) = subL x lo := by
 unfold natL castL
 rw [List.map_map]
 refine (List.map_congr_left fun y hy => ?_).trans (List.map_id _)
 obtain ⟨i, hi'⟩ := List.getElem?_of_mem hy
 obtain ⟨a, b, ha, hb, rfl⟩ := subL_some hi'
 obtain ⟨c, hc⟩ : ∃ c, hi[i]? = some c := ⟨_, List.getElem?_eq_getElem (by have := (List.getElem?_eq_some_iff.1 hb).1; omega)⟩
 have := h.each i b c a hb hc ha
 show ((a - b).toNat : Int) = a - b
 omega
theorem natL_below {lo hi x : List Int} (hl : lo.length = hi.length) (h : InBox lo hi x) (hw : ∀ (i : Nat) (a b : Int), lo[i]? = some a → hi[i]? = some b → b - a < 4096) : BelowN (bitsL 0 lo hi) (natL x lo) ∧ SmallN (natL x lo) := by
 have key : ∀ y ∈ natL x lo, y < 2 ^ bitsL 0 lo hi ∧ y < 4096 := fun y hy => by
  obtain ⟨z, hz, rfl⟩ := List.mem_map.1 hy
  obtain ⟨i, hi'⟩ := List.getElem?_of_mem hz
  obtain ⟨a, b, ha, hb, rfl⟩ := subL_some hi'
  obtain ⟨c, hc⟩ : ∃ c, hi[i]? = some c := ⟨_, List.getElem?_eq_getElem (by have := (List.getElem?_eq_some_iff.1 hb).1; omega)⟩
  have h1 := h.each i b c a hb hc ha
  have h2 := hw i b c hb hc
  have h3 := bitLen_lt (x := (c - b).toNat) (by omega)
  have h4 : 2 ^ Lib.bitLen (c - b).toNat ≤ 2 ^ bitsL 0 lo hi := Nat.pow_le_pow_right (by decide) (bitsL_get hb hc)
  omega
 exact ⟨fun y hy => (key y hy).1, fun y hy => (key y hy).2⟩
theorem natL_length {lo hi x : List Int} (h : InBox lo hi x) : (natL x lo).length = lo.length := by
 unfold natL
 rw [List.length_map, subL_length h.len]
theorem subL_inj {x y lo : List Int} (hx : x.length = lo.length) (hy : y.length = lo.length) (h : subL x lo = subL y lo) : x = y := by
 apply List.ext_getElem?
 intro i
 by_cases hi : i < lo.length
 ·have e1 := subL_get (x := x) (lo := lo) (i := i) (List.getElem?_eq_getElem (by omega)) (List.getElem?_eq_getElem hi)
  have e2 := subL_get (x := y) (lo := lo) (i := i) (List.getElem?_eq_getElem (by omega)) (List.getElem?_eq_getElem hi)
  rw [h, e2] at e1
  rw [List.getElem?_eq_getElem (by omega), List.getElem?_eq_getElem (by omega)]
  simp only [Option.some.injEq] at e1 ⊢
  omega
 ·rw [List.getElem?_eq_none (by omega), List.getElem?_eq_none (by omega)]
/-- boxes whose coordinates can be ordered -/
structure BoxS (lo hi : List Int) : Prop where
 len : lo.length = hi.length
 bits : bitsL 0 lo hi ≤ 12
 wide : ∀ (i : Nat) (a b : Int), lo[i]? = some a → hi[i]? = some b → a ≤ b ∧ b - a < 4096
theorem boxS_of {lo hi : List Int} (h2 : formedB lo hi = true) (h3 : limE lo hi = 0) : BoxS lo hi := by
 unfold formedB at h2
 simp only [Bool.and_eq_true, decide_eq_true_eq] at h2
 obtain ⟨hA, n, hB, -⟩ := limE_zero h3
 have hw : ∀ (i : Nat) (a b : Int), lo[i]? = some a → hi[i]? = some b → a ≤ b ∧ b - a < 4096 := fun i a b ha hb => ⟨(limA_get hA ha hb).2, limB_get hB ha hb⟩
 refine ⟨h2.1.1, bitsL_le (Nat.zero_le _) fun i a b ha hb => ?_, hw⟩
 have := hw i a b ha hb
 omega
theorem inBox_of {lo hi x : List Int} (hl : lo.length = hi.length) : x ∈ ptsL lo hi ↔ InBox lo hi x := by
 rw [ptsL_mem hl]
 constructor
 ·rintro ⟨h1, h2⟩
  exact ⟨h1, h2⟩
 ·rintro ⟨h1, h2⟩
  exact ⟨h1, h2⟩
theorem keyF_inj {order tl : Int} {lo hi x y : List Int} (hb : BoxS lo hi) (hx : InBox lo hi x) (hy : InBox lo hi y) (h : keyF order tl (bitsL 0 lo hi) (subL x lo) = keyF order tl (bitsL 0 lo hi) (subL y lo)) : x = y := by
 refine subL_inj hx.len hy.len ?_
 unfold keyF at h
 split at h
 ·rw [← natL_cast hb.len hx, ← natL_cast hb.len hy] at h ⊢
  have bx := natL_below hb.len hx fun i a b ha hb' => (hb.wide i a b ha hb').2
  have by' := natL_below hb.len hy fun i a b ha hb' => (hb.wide i a b ha hb').2
  have hl : (natL x lo).length = (natL y lo).length := by rw [natL_length hx, natL_length hy]
  have hc := hil_cmp bx.2 by'.2 hb.bits hl
  rw [h, cmpI_self] at hc
  have hc := (cmpI_zero.1 hc.symm)
  have hc2 : hilB (bitsL 0 lo hi) (natL x lo) = hilB (bitsL 0 lo hi) (natL y lo) := by
   have := congrArg (fun l => l.map Int.toNat) hc
   simpa [castL, List.map_map, Function.comp_def] using this
  rw [hilB_inj bx.1 by'.1 hl hc2]
 ·split at h
  ·exact (List.append_inj' h (by rw [subL_length hx.len, subL_length hy.len])).2
  ·exact h
/-- the key of coordinates in the order of a layout -/
abbrev keyO (l : LayT) (lo hi : List Int) (x : List Int) : List Int := keyF l.order l.tile (bitsL 0 lo hi) (subL x lo)
end Go.Proofs.YtkliekoheeeamaaGreatDoor
/- The Hilbert order of cubes, computed: the coordinates with a key; neighbours differ by 1 along one dimension. -/
namespace Go.Proofs.YtkliekoheeeamaaGreatDoor
open Go.RowKit

def zSum (n j i : Nat) : Nat → Nat
 | 0 => 0
 | q + 1 => zSum n j i q + (j / 2 ^ (n * q + (n - 1 - i)) % 2) * 2 ^ q
def tInv (z : Nat) : Nat → Nat → Nat
 | 0, t => t
 | 1, t => t
 | p + 2, t => tInv z (p + 1) (if (z ^^^ t).testBit (p + 1) = true then t ^^^ (2 ^ (p + 1) - 1) else t)
def inI (q : Nat) : Nat → List Nat → List Nat
 | 0, Y => Y
 | m + 1, Y => inI q m (stN q m Y)
def outI (n : Nat) : Nat → List Nat → List Nat
 | 0, Y => Y
 | 1, Y => Y
 | p + 2, Y => inI (p + 1) n (outI n (p + 1) Y)
def grayI : Nat → List Nat → List Nat
 | _, [] => []
 | y, x :: l => (x ^^^ y) :: grayI x l
def zsL (n b j t : Nat) : Nat → List Nat
 | 0 => []
 | m + 1 => zsL n b j t m ++ [zSum n j m b ^^^ t]
/-- the coordinates with the key j -/
def invN (n b j : Nat) : List Nat := outI n b (grayI 0 (zsL n b j (tInv (zSum n j (n - 1) b) b 0) n))
def farN : List Nat → List Nat → Nat
 | x :: xs, y :: ys => (x - y) + (y - x) + farN xs ys
 | _, _ => 0
def goodN (n b j : Nat) : Bool := (invN n b j).length == n && (invN n b j).all (fun y => decide (y < 2 ^ b)) && numB 0 (hilB b (invN n b j)) == j
def stepsN (n b : Nat) : Nat → Bool
 | 0 => true
 | 1 => goodN n b 0
 | j + 2 => goodN n b (j + 1) && farN (invN n b (j + 1)) (invN n b j) == 1 && stepsN n b (j + 1)
def cubeN (n b : Nat) : Bool := stepsN n b (2 ^ (n * b)) && (invN n b 0).all (fun y => y == 0)
theorem cube_1_0 : cubeN 1 0 = true := by decide +kernel
theorem cube_1_1 : cubeN 1 1 = true := by decide +kernel
theorem cube_1_2 : cubeN 1 2 = true := by decide +kernel
theorem cube_1_3 : cubeN 1 3 = true := by decide +kernel
theorem cube_1_4 : cubeN 1 4 = true := by decide +kernel
theorem cube_1_5 : cubeN 1 5 = true := by decide +kernel
theorem cube_1_6 : cubeN 1 6 = true := by decide +kernel
theorem cube_2_0 : cubeN 2 0 = true := by decide +kernel
theorem cube_2_1 : cubeN 2 1 = true := by decide +kernel
theorem cube_2_2 : cubeN 2 2 = true := by decide +kernel
theorem cube_2_3 : cubeN 2 3 = true := by decide +kernel
theorem cube_2_4 : cubeN 2 4 = true := by decide +kernel
theorem cube_2_5 : cubeN 2 5 = true := by decide +kernel
theorem cube_3_0 : cubeN 3 0 = true := by decide +kernel
theorem cube_3_1 : cubeN 3 1 = true := by decide +kernel
theorem cube_3_2 : cubeN 3 2 = true := by decide +kernel
theorem cube_3_3 : cubeN 3 3 = true := by decide +kernel
theorem cube_4_0 : cubeN 4 0 = true := by decide +kernel
theorem cube_4_1 : cubeN 4 1 = true := by decide +kernel
theorem cube_4_2 : cubeN 4 2 = true := by decide +kernel
theorem cube_any {n b : Nat} (h1 : 1 ≤ n) (h4 : n ≤ 4) (h6 : b ≤ 6) (h : n * b ≤ 10) : cubeN n b = true := by
 have hn : n = 1 ∨ n = 2 ∨ n = 3 ∨ n = 4 := by omega
 have hb : b = 0 ∨ b = 1 ∨ b = 2 ∨ b = 3 ∨ b = 4 ∨ b = 5 ∨ b = 6 := by omega
 rcases hn with rfl | rfl | rfl | rfl
 ·rcases hb with rfl | rfl | rfl | rfl | rfl | rfl | rfl
  ·exact cube_1_0
  ·exact cube_1_1
  ·exact cube_1_2
  ·exact cube_1_3
  ·exact cube_1_4
  ·exact cube_1_5
  ·exact cube_1_6
 ·rcases hb with rfl | rfl | rfl | rfl | rfl | rfl | rfl
  ·exact cube_2_0
  ·exact cube_2_1
  ·exact cube_2_2
  ·exact cube_2_3
  ·exact cube_2_4
  ·exact cube_2_5
  ·exact absurd h (by decide)
 ·rcases hb with rfl | rfl | rfl | rfl | rfl | rfl | rfl
  ·exact cube_3_0
  ·exact cube_3_1
  ·exact cube_3_2
  ·exact cube_3_3
  ·exact absurd h (by decide)
  ·exact absurd h (by decide)
  ·exact absurd h (by decide)
 ·rcases hb with rfl | rfl | rfl | rfl | rfl | rfl | rfl
  ·exact cube_4_0
  ·exact cube_4_1
  ·exact cube_4_2
  ·exact absurd h (by decide)
  ·exact absurd h (by decide)
  ·exact absurd h (by decide)
  ·exact absurd h (by decide)
end Go.Proofs.YtkliekoheeeamaaGreatDoor
/- SpaceHilbert in plain words: the sorted list of a cube's coordinates is the curve. -/
namespace Go.Proofs.YtkliekoheeeamaaGreatDoor
open Go.RowKit

def farI : List Int → List Int → Int
 | x :: xs, y :: ys => max (x - y) (y - x) + farI xs ys
 | _, _ => 0
theorem numB_inj {a b : List Nat} (ha : BitL a) (hb : BitL b) (hl : a.length = b.length) (h : numB 0 a = numB 0 b) : a = b := by
 have := cmp_bits (k := 0) ha hb hl
 rw [h, cmpI_self] at this
 have := cmpI_zero.1 this
 have := congrArg (fun l => l.map Int.toNat) this
 simpa [castL, List.map_map, Function.comp_def] using this
/-- an ascending sequence of M numbers below M -/
theorem asc_id {M : Nat} {f : Nat → Nat} (h1 : ∀ j, j + 1 < M → f j < f (j + 1)) (h2 : ∀ j, j < M → f j < M) : ∀ j, j < M → f j = j := by
 have lo : ∀ j, j < M → j ≤ f j := by
  intro j
  induction j with
  | zero => intro _; omega
  | succ j ih => intro hj; have := ih (by omega); have := h1 j hj; omega
 have up : ∀ t, t < M → f (M - 1 - t) ≤ M - 1 - t := by
  intro t
  induction t with
  | zero => intro h; have := h2 (M - 1 - 0) (by omega); omega
  | succ t ih =>
   intro ht
   have e1 := ih (by omega)
   have e2 := h1 (M - 1 - (t + 1)) (by omega)
   rw [show M - 1 - (t + 1) + 1 = M - 1 - t from by omega] at e2
   omega
 intro j hj
 have a := lo j hj
 have b := up (M - 1 - j) (by omega)
 rw [show M - 1 - (M - 1 - j) = j from by omega] at b
 omega
theorem steps_good {n b : Nat} : ∀ {m j : Nat}, stepsN n b m = true → j < m → goodN n b j = true
 | 0, j, _, hj => by omega
 | 1, j, h, hj => by
  obtain rfl : j = 0 := by omega
  exact h
 | m + 2, j, h, hj => by
  rw [stepsN] at h
  simp only [Bool.and_eq_true] at h
  by_cases e : j = m + 1
  ·subst e; exact h.1.1
  ·exact steps_good h.2 (by omega)
theorem steps_far {n b : Nat} : ∀ {m j : Nat}, stepsN n b m = true → j + 1 < m → farN (invN n b (j + 1)) (invN n b j) = 1
 | 0, j, _, hj => by omega
 | 1, j, _, hj => by omega
 | m + 2, j, h, hj => by
  rw [stepsN] at h
  simp only [Bool.and_eq_true, beq_iff_eq] at h
  by_cases e : j = m
  ·subst e; exact h.1.2
  ·exact steps_far h.2 (by omega)
theorem good_parts {n b j : Nat} (h : goodN n b j = true) : (invN n b j).length = n ∧ BelowN b (invN n b j) ∧ numB 0 (hilB b (invN n b j)) = j := by
 unfold goodN at h
 simp only [Bool.and_eq_true, beq_iff_eq, List.all_eq_true, decide_eq_true_eq] at h
 exact ⟨h.1.1, h.1.2, h.2⟩
theorem far_cast : ∀ {x y l : List Int} {a b : List Nat}, subL x l = castL a → subL y l = castL b → x.length = l.length → y.length = l.length → farI x y = (farN a b : Nat)
 | [], [], [], a, b, h1, h2, _, _ => by
  cases a with
  | nil => rfl
  | cons _ _ => simp [subL, castL] at h1
 | u :: x, v :: y, w :: l, a, b, h1, h2, k1, k2 => by
  cases a with
  | nil => simp [subL, castL] at h1
  | cons a0 a =>
   cases b with
   | nil => simp [subL, castL] at h2
   | cons b0 b =>
    simp only [subL, castL, List.map_cons, List.cons.injEq] at h1 h2
    have ih := far_cast (a := a) (b := b) h1.2 h2.2 (by simpa using k1) (by simpa using k2)
    rw [farI, farN, ih]
    omega
 | [], _ :: _, l, _, _, _, _, k1, k2 => by rw [← k1] at k2; simp at k2
 | _ :: _, [], l, _, _, _, _, k1, k2 => by rw [← k1] at k2; simp at k2
 | [], [], _ :: _, _, _, _, _, k1, _ => by simp at k1
 | _ :: _, _ :: _, [], _, _, _, _, k1, _ => by simp at k1
/-- cubes: the lower bounds, and as many coordinates along each dimension -/
structure CubeB (n k : Nat) (lo hi : List Int) : Prop where
 llo : lo.length = n
 lhi : hi.length = n
 side : ∀ (i : Nat) (a b : Int), lo[i]? = some a → hi[i]? = some b → b = a + (2 ^ k - 1)
theorem bitLen_pow {k : Nat} (h : k ≤ 6) : Lib.bitLen (2 ^ k - 1) = k := by
 have : k = 0 ∨ k = 1 ∨ k = 2 ∨ k = 3 ∨ k = 4 ∨ k = 5 ∨ k = 6 := by omega
 rcases this with rfl | rfl | rfl | rfl | rfl | rfl | rfl <;> decide
theorem pow_cast {k : Nat} : (2 : Int) ^ k = ((2 ^ k : Nat) : Int) := by norm_cast
theorem cube_bits : ∀ {k m : Nat} {lo hi : List Int}, k ≤ 6 → lo.length = hi.length → (∀ (i : Nat) (a b : Int), lo[i]? = some a → hi[i]? = some b → b = a + (2 ^ k - 1)) → m ≤ k → 0 < lo.length ∨ m = k → bitsL m lo hi = k
 | k, m, [], hi, _, _, _, _, h => by
  rcases h with h | h
  ·simp at h
  ·cases hi <;> simpa [bitsL] using h
 | k, m, l :: ls, [], _, hl, _, _, _ => by simp at hl
 | k, m, l :: ls, x :: xs, hk, hl, hs, hm, _ => by
  have e := hs 0 l x rfl rfl
  have hp : 1 ≤ 2 ^ k := Nat.one_le_two_pow
  rw [bitsL, show (x - l).toNat = 2 ^ k - 1 from by rw [e, pow_cast]; omega, bitLen_pow hk]
  exact cube_bits hk (by simpa using hl) (fun i a b ha hb => hs (i + 1) a b ha hb) (by omega) (.inr (by omega))
theorem cube_pts : ∀ {k n : Nat} {lo hi : List Int}, lo.length = n → hi.length = n → (∀ (i : Nat) (a b : Int), lo[i]? = some a → hi[i]? = some b → b = a + (2 ^ k - 1)) → ptsN lo hi = 2 ^ (n * k)
 | k, n, [], hi, h1, h2, _ => by
  subst h1
  obtain rfl := List.length_eq_zero_iff.1 h2
  simp [ptsN]
 | k, n, l :: ls, [], h1, h2, _ => by subst h2; simp at h1
 | k, n, l :: ls, x :: xs, h1, h2, hs => by
  obtain ⟨n, rfl⟩ : ∃ m, n = m + 1 := ⟨n - 1, by simp at h1; omega⟩
  have e := hs 0 l x rfl rfl
  have hp : 1 ≤ 2 ^ k := Nat.one_le_two_pow
  rw [ptsN, show (x - l + 1).toNat = 2 ^ k from by rw [e, pow_cast]; omega, cube_pts (n := n) (by simpa using h1) (by simpa using h2) (fun i a b ha hb => hs (i + 1) a b ha hb), Nat.add_mul, Nat.one_mul, Nat.pow_add, Nat.mul_comm]
/-- the curve -/
theorem curve {n k : Nat} {l : LayT} {lo hi : List Int} {r : List (List Int)} (hn : 1 ≤ n) (h4 : n ≤ 4) (h6 : k ≤ 6) (h10 : n * k ≤ 10) (ho : l.order = 2) (hb : BoxS lo hi) (hc : CubeB n k lo hi) (h : SortedBy l lo hi r) :
  r.length = 2 ^ (n * k) ∧ r[0]? = some lo ∧ (∀ x ∈ r, x.length = n) ∧ ∀ (j : Nat) (x y : List Int), r[j + 1]? = some x → r[j]? = some y → farI x y = 1 := by
 have hlen : r.length = 2 ^ (n * k) := by rw [h.1.length_eq, ptsL_length, cube_pts hc.llo hc.lhi hc.side]
 have hbits : bitsL 0 lo hi = k := cube_bits h6 hb.len hc.side (Nat.zero_le _) (.inl (by rw [hc.llo]; omega))
 have hin : ∀ x ∈ r, InBox lo hi x := fun x hx => (inBox_of hb.len).1 (h.1.mem_iff.1 hx)
 have hw : ∀ (i : Nat) (a b : Int), lo[i]? = some a → hi[i]? = some b → b - a < 4096 := fun i a b ha hb' => (hb.wide i a b ha hb').2
 have hcube := cube_any hn h4 h6 h10
 unfold cubeN at hcube
 simp only [Bool.and_eq_true] at hcube
 obtain ⟨hst, hz⟩ := hcube
 -- the numbers of the keys
 have hnum : ∀ x ∈ r, keyO l lo hi x = [((numB 0 (hilB k (natL x lo)) : Nat) : Int)] := fun x hx => by
  have hs := natL_below hb.len (hin x hx) hw
  unfold keyO keyF
  rw [if_pos ho, hbits, ← natL_cast hb.len (hin x hx), hilZ_nat hs.2 (by omega)]
 let f : Nat → Nat := fun j => numB 0 (hilB k (natL (r.getD j []) lo))
 have hf : ∀ j, j < r.length → r[j]? = some (r.getD j []) := fun j hj => by rw [List.getD_eq_getElem?_getD, List.getElem?_eq_getElem hj]; rfl
 have hnd : r.Nodup := h.1.nodup_iff.2 ptsL_nodup
 have hasc : ∀ j, j + 1 < 2 ^ (n * k) → f j < f (j + 1) := fun j hj => by
  have e1 := hf j (by omega)
  have e2 := hf (j + 1) (by omega)
  have m1 := List.mem_of_getElem? e1
  have m2 := List.mem_of_getElem? e2
  have hs := sort_get h.2 (Nat.lt_succ_self j) e1 e2
  unfold leK at hs
  change cmpI (keyF l.order l.tile (bitsL 0 lo hi) (subL (r.getD (j + 1) []) lo)) (keyF l.order l.tile (bitsL 0 lo hi) (subL (r.getD j []) lo)) ≠ -1 at hs
  rw [show keyF l.order l.tile (bitsL 0 lo hi) (subL (r.getD (j + 1) []) lo) = _ from hnum _ m2, show keyF l.order l.tile (bitsL 0 lo hi) (subL (r.getD j []) lo) = _ from hnum _ m1] at hs
  have hne : r.getD j [] ≠ r.getD (j + 1) [] := fun e => by
   obtain ⟨i1, g1⟩ := List.getElem?_eq_some_iff.1 e1
   obtain ⟨i2, g2⟩ := List.getElem?_eq_some_iff.1 e2
   exact absurd (List.pairwise_iff_getElem.1 hnd j (j + 1) i1 i2 (Nat.lt_succ_self j)) (by rw [g1, g2]; exact fun h => h e)
  have hne2 : f j ≠ f (j + 1) := fun e => hne (keyF_inj (order := l.order) (tl := l.tile) hb (hin _ m1) (hin _ m2) (by
   rw [show keyF l.order l.tile (bitsL 0 lo hi) (subL (r.getD j []) lo) = _ from hnum _ m1, show keyF l.order l.tile (bitsL 0 lo hi) (subL (r.getD (j + 1) []) lo) = _ from hnum _ m2]
   show [((f j : Nat) : Int)] = [((f (j + 1) : Nat) : Int)]
   rw [e]))
  have hs2 : ¬ ((f (j + 1) : Nat) : Int) < ((f j : Nat) : Int) := fun hlt => hs (by
   show cmpI [((f (j + 1) : Nat) : Int)] [((f j : Nat) : Int)] = -1
   rw [cmpI, if_pos hlt])
  omega
 have hbelow : ∀ j, j < 2 ^ (n * k) → f j < 2 ^ (n * k) := fun j hj => by
  have e1 := hf j (by omega)
  have m1 := List.mem_of_getElem? e1
  have hs := natL_below hb.len (hin _ m1) hw
  have := numB_lt (k := 0) (hilB_bit k (natL (r.getD j []) lo))
  rw [hilB_length hs.2 (by omega), natL_length (hin _ m1), hc.llo, Nat.mul_comm k n, Nat.zero_add, Nat.one_mul] at this
  exact this
 have hid := asc_id hasc hbelow
 have key : ∀ j, j < 2 ^ (n * k) → subL (r.getD j []) lo = castL (invN n k j) := fun j hj => by
  have e1 := hf j (by omega)
  have m1 := List.mem_of_getElem? e1
  have hs := natL_below hb.len (hin _ m1) hw
  rw [hbits] at hs
  obtain ⟨g1, g2, g3⟩ := good_parts (steps_good hst hj)
  have hl : (natL (r.getD j []) lo).length = (invN n k j).length := by rw [natL_length (hin _ m1), hc.llo, g1]
  have hsm : SmallN (invN n k j) := fun y hy => by
   have := g2 y hy
   have : (2 : Nat) ^ k ≤ 2 ^ 12 := Nat.pow_le_pow_right (by decide) (by omega)
   omega
  have hnb : numB 0 (hilB k (natL (r.getD j []) lo)) = numB 0 (hilB k (invN n k j)) := by rw [g3]; exact hid j hj
  have hbb := numB_inj (hilB_bit _ _) (hilB_bit _ _) (by rw [hilB_length hs.2 (by omega), hilB_length hsm (by omega), hl]) hnb
  have := hilB_inj hs.1 g2 hl hbb
  rw [← natL_cast hb.len (hin _ m1), this]
 refine ⟨hlen, ?_, fun x hx => by rw [(hin x hx).len, hc.llo], fun j x y hx hy => ?_⟩
 ·have hp : 0 < 2 ^ (n * k) := Nat.two_pow_pos _
  have e1 := hf 0 (by omega)
  have m1 := List.mem_of_getElem? e1
  rw [e1]
  congr 1
  refine subL_inj (hin _ m1).len rfl ?_
  rw [key 0 hp]
  apply List.ext_getElem?
  intro i
  have l1 : (castL (invN n k 0)).length = n := by rw [castL, List.length_map]; exact (good_parts (steps_good hst hp)).1
  by_cases hi : i < n
  ·have e2 : (invN n k 0)[i]? = some 0 := by
    obtain ⟨y, hy⟩ : ∃ y, (invN n k 0)[i]? = some y := ⟨_, List.getElem?_eq_getElem (by rw [castL, List.length_map] at l1; omega)⟩
    have := List.all_eq_true.1 hz y (List.mem_of_getElem? hy)
    simp at this
    rw [hy, this]
   have hlo : lo[i]? = some (lo[i]'(by rw [hc.llo]; exact hi)) := List.getElem?_eq_getElem _
   rw [castL, List.getElem?_map, e2, subL_get hlo hlo]
   simp
  ·rw [List.getElem?_eq_none (by omega), List.getElem?_eq_none (by rw [subL_length rfl, hc.llo]; omega)]
 ·have hj : j + 1 < 2 ^ (n * k) := by have := (List.getElem?_eq_some_iff.1 hx).1; omega
  have e1 := hf j (by omega)
  have e2 := hf (j + 1) (by omega)
  rw [hx] at e2
  rw [hy] at e1
  have k1 := key j (by omega)
  have k2 := key (j + 1) hj
  rw [← Option.some.inj e1] at k1
  rw [← Option.some.inj e2] at k2
  rw [far_cast k2 k1 (hin x (List.mem_of_getElem? hx)).len (hin y (List.mem_of_getElem? hy)).len, steps_far hst hj]
  rfl
end Go.Proofs.YtkliekoheeeamaaGreatDoor
/- SpaceHilbert in plain words: the cube, its neighbors' distances. -/
namespace Go.Proofs.YtkliekoheeeamaaGreatDoor
open Go.RowKit

/-- the bounds of the cube -/
def cubLo (lo : Int) (n : Nat) : List Int := (List.range n).map fun (i : Nat) => lo - (i : Int)
def cubHi (lo : Int) (k n : Nat) : List Int := (List.range n).map fun (i : Nat) => lo - (i : Int) + (2 ^ k - 1)
theorem cubLo_snoc (lo : Int) (n : Nat) : cubLo lo (n + 1) = cubLo lo n ++ [lo - (n : Int)] := by simp [cubLo, List.range_succ]
theorem cubHi_snoc (lo : Int) (k n : Nat) : cubHi lo k (n + 1) = cubHi lo k n ++ [lo - (n : Int) + (2 ^ k - 1)] := by simp [cubHi, List.range_succ]
theorem cubLo_length (lo : Int) (n : Nat) : (cubLo lo n).length = n := by simp [cubLo]
theorem cubHi_length (lo : Int) (k n : Nat) : (cubHi lo k n).length = n := by simp [cubHi]
theorem cubLo_get {lo : Int} {n i : Nat} {a : Int} (h : (cubLo lo n)[i]? = some a) : i < n ∧ a = lo - (i : Int) := by
 have hi : i < n := by
  have := (List.getElem?_eq_some_iff.1 h).1
  rwa [cubLo_length] at this
 refine ⟨hi, ?_⟩
 simp [cubLo, List.getElem?_map, List.getElem?_range hi] at h
 exact h.symm
theorem cubHi_get {lo : Int} {k n i : Nat} {a : Int} (h : (cubHi lo k n)[i]? = some a) : i < n ∧ a = lo - (i : Int) + (2 ^ k - 1) := by
 have hi : i < n := by
  have := (List.getElem?_eq_some_iff.1 h).1
  rwa [cubHi_length] at this
 refine ⟨hi, ?_⟩
 simp [cubHi, List.getElem?_map, List.getElem?_range hi] at h
 exact h.symm
theorem cub_side {lo : Int} {k n : Nat} (i : Nat) (a b : Int) (ha : (cubLo lo n)[i]? = some a) (hb : (cubHi lo k n)[i]? = some b) : b = a + (2 ^ k - 1) := by
 rw [(cubLo_get ha).2, (cubHi_get hb).2]
theorem cub_cube (lo : Int) (k n : Nat) : CubeB n k (cubLo lo n) (cubHi lo k n) := ⟨cubLo_length _ _, cubHi_length _ _ _, cub_side⟩
theorem two_pow_cast (k : Nat) : (2 : Int) ^ k = ((2 ^ k : Nat) : Int) := by norm_cast
theorem pow_small {k : Nat} (h : k ≤ 6) : 1 ≤ 2 ^ k ∧ 2 ^ k ≤ 64 := ⟨Nat.one_le_two_pow, Nat.pow_le_pow_right (by decide) h⟩
theorem pow_1024 {m : Nat} (h : m ≤ 10) : 1 ≤ 2 ^ m ∧ 2 ^ m ≤ 1024 := ⟨Nat.one_le_two_pow, Nat.pow_le_pow_right (by decide) h⟩
theorem limA_no : ∀ {lo hi : List Int}, (∀ (i : Nat) (a b : Int), lo[i]? = some a → hi[i]? = some b → a ≤ b ∧ b ≤ 1073741824) → limA lo hi = false
 | [], _, _ => by rw [limA]; intro _ _ _ _ h; cases h
 | _ :: _, [], _ => by rw [limA]; intro _ _ _ _ _ h; cases h
 | l :: ls, h :: hs, hb => by
  have h0 := hb 0 l h rfl rfl
  rw [limA, if_neg (by omega)]
  exact limA_no fun i a b ha hb' => hb (i + 1) a b ha hb'
theorem limB_cube : ∀ {lo hi : List Int} {S : Nat} (c : Int), S ≤ 64 → lo.length = hi.length → (∀ (i : Nat) (a b : Int), lo[i]? = some a → hi[i]? = some b → b = a + ((S : Int) - 1)) → limB c lo hi = some (c * ((S ^ lo.length : Nat) : Int))
 | [], [], S, c, _, _, _ => by
  rw [limB]
  ·simp
  ·intro _ _ _ _ h; cases h
 | [], _ :: _, _, _, _, h, _ => by simp at h
 | _ :: _, [], _, _, _, h, _ => by simp at h
 | l :: ls, h :: hs, S, c, hS, hl, hb => by
  have h0 := hb 0 l h rfl rfl
  rw [limB, if_neg (by omega), limB_cube (S := S) _ hS (by simpa using hl) (fun i a b ha hb' => hb (i + 1) a b ha hb')]
  have e : h - l + 1 = (S : Int) := by omega
  rw [e, List.length_cons, Nat.pow_succ, Int.natCast_mul, Int.mul_assoc, Int.mul_comm (S : Int)]
theorem cub_lim {lo : Int} {k n : Nat} (h6 : k ≤ 6) (h10 : n * k ≤ 10) (hl : lo ≤ 40000) : limE (cubLo lo n) (cubHi lo k n) = 0 := by
 have hp := pow_small h6
 have e := two_pow_cast k
 have hA : limA (cubLo lo n) (cubHi lo k n) = false := limA_no fun i a b ha hb => by
  have h1 := cubLo_get ha
  have h2 := cubHi_get hb
  rw [e] at h2
  omega
 have hB := limB_cube (lo := cubLo lo n) (hi := cubHi lo k n) (S := 2 ^ k) 1 hp.2 (by rw [cubLo_length, cubHi_length]) (fun i a b ha hb => by rw [cub_side i a b ha hb, e])
 unfold limE
 rw [hA, if_neg (by decide), hB, limF, cubLo_length, ← Nat.pow_mul, Nat.mul_comm k n]
 have := pow_1024 h10
 rw [if_neg (by omega)]
theorem cub_formed {lo : Int} {k n : Nat} (h1 : 1 ≤ n) (h4 : n ≤ 4) : formedB (cubLo lo n) (cubHi lo k n) = true := by
 simp [formedB, cubLo_length, cubHi_length]; omega
theorem farI_snoc : ∀ {a b : List Int} {x y : Int}, a.length = b.length → farI (a ++ [x]) (b ++ [y]) = farI a b + max (x - y) (y - x)
 | [], [], x, y, _ => by simp [farI]
 | [], _ :: _, _, _, h => by simp at h
 | _ :: _, [], _, _, h => by simp at h
 | a :: a9, b :: b9, x, y, h => by
  rw [List.cons_append, List.cons_append, farI, farI, farI_snoc (by simpa using h)]; omega
theorem farI_take {x y : List Int} {j : Nat} {a b : Int} (hx : x[j]? = some a) (hy : y[j]? = some b) : farI (x.take (j + 1)) (y.take (j + 1)) = farI (x.take j) (y.take j) + max (a - b) (b - a) := by
 have h1 := (List.getElem?_eq_some_iff.1 hx).1
 have h2 := (List.getElem?_eq_some_iff.1 hy).1
 rw [List.take_add_one, List.take_add_one, hx, hy]
 exact farI_snoc (by simp; omega)
theorem farI_bound {x y : List Int} (h : ∀ (i : Nat) (a b : Int), x[i]? = some a → y[i]? = some b → a - b ≤ 100000 ∧ b - a ≤ 100000) (hl : x.length = y.length) : ∀ j, j ≤ x.length → 0 ≤ farI (x.take j) (y.take j) ∧ farI (x.take j) (y.take j) ≤ 100000 * (j : Int)
 | 0, _ => by simp [farI]
 | j + 1, hj => by
  obtain ⟨i1, i2⟩ := farI_bound h hl j (by omega)
  have hx : x[j]? = some x[j] := List.getElem?_eq_getElem (by omega)
  have hy : y[j]? = some y[j] := List.getElem?_eq_getElem (by omega)
  have := h j _ _ hx hy
  rw [farI_take hx hy]
  omega
/-- what SpaceHilbert finds in the list -/
structure CurveR (n k : Nat) (lo : Int) (r : List (List Int)) : Prop where
 len : r.length = 2 ^ (n * k)
 first : r[0]? = some (cubLo lo n)
 lens : ∀ (i : Nat) (x : List Int), r[i]? = some x → x.length = n
 near : ∀ (j : Nat) (x y : List Int), r[j + 1]? = some x → r[j]? = some y → farI x y = 1
 small : ∀ (i : Nat) (x : List Int), r[i]? = some x → ∀ c ∈ x, -50000 ≤ c ∧ c ≤ 50000
theorem curve_of {n k : Nat} {lo : Int} {l : LayT} {r : List (List Int)} (hn : 1 ≤ n) (h4 : n ≤ 4) (h6 : k ≤ 6) (h10 : n * k ≤ 10) (ho : l.order = 2) (hl : -40000 ≤ lo) (hh : lo ≤ 40000) (h : SortedBy l (cubLo lo n) (cubHi lo k n) r) : CurveR n k lo r := by
 have hb : BoxS (cubLo lo n) (cubHi lo k n) := boxS_of (cub_formed hn h4) (cub_lim h6 h10 hh)
 obtain ⟨c1, c2, c3, c4⟩ := curve hn h4 h6 h10 ho hb (cub_cube lo k n) h
 have hp := pow_small h6
 have e := two_pow_cast k
 refine ⟨c1, c2, fun i x hx => c3 x (List.mem_of_getElem? hx), c4, fun i x hx c hc => ?_⟩
 have hin : InBox _ _ x := (inBox_of hb.len).1 (h.1.mem_iff.1 (List.mem_of_getElem? hx))
 obtain ⟨j, hj, he⟩ := List.getElem_of_mem hc
 have hxl := c3 x (List.mem_of_getElem? hx)
 have ha : (cubLo lo n)[j]? = some (lo - (j : Int)) := by simp [cubLo, List.getElem?_map, List.getElem?_range (show j < n by omega)]
 have hbb : (cubHi lo k n)[j]? = some (lo - (j : Int) + (2 ^ k - 1)) := by simp [cubHi, List.getElem?_map, List.getElem?_range (show j < n by omega)]
 have := hin.each j _ _ c ha hbb (by rw [← he]; exact List.getElem?_eq_getElem hj)
 rw [e] at this
 omega
theorem CurveR.diff {n k : Nat} {lo : Int} {r : List (List Int)} (h : CurveR n k lo r) {i m : Nat} {x y : List Int} (hx : r[i]? = some x) (hy : r[m]? = some y) : ∀ (t : Nat) (a b : Int), x[t]? = some a → y[t]? = some b → a - b ≤ 100000 ∧ b - a ≤ 100000 := fun t a b ha hb => by
 have h1 := h.small i x hx a (List.mem_of_getElem? ha)
 have h2 := h.small m y hy b (List.mem_of_getElem? hb)
 omega
end Go.Proofs.YtkliekoheeeamaaGreatDoor
