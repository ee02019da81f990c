/- ExactParses: the walk. -/
import Derived.Test.YtemhidlaaommaaaGreatDoorRefM
import Derived.Test.YtemhidlaaommaaaGreatDoorRefQ
namespace Go.Proofs.YtemhidlaaommaaaGreatDoor
open Go.RowKit

theorem dec_lt (n : Nat) : n < 10 ^ (dec n).length := by
  have h := dec_parts n
  have h1 := dval_lt (dec n) h.2.2.1
  rwa [h.2.2.2] at h1
theorem ten_two {n m K : Nat} (h : n < 10 ^ m) (hm : m ≤ K) : n < 2 ^ (4 * K) := by
  have h1 : (10 : Nat) ^ m ≤ 10 ^ K := Nat.pow_le_pow_right (by decide) hm
  have h2 : (10 : Nat) ^ K ≤ (2 ^ 4) ^ K := Nat.pow_le_pow_left (by decide) _
  rw [← Nat.pow_mul] at h2
  exact Nat.lt_of_lt_of_le h (Nat.le_trans h1 h2)
theorem parse_bd {l : List UInt8} {q : Rat} {K : Nat} (h : parseQ l = some q) (hl : l.length ≤ K) : Bd (4 * (K + 1)) q := by
  obtain rfl := (parseQ_iff l q).1 h
  unfold ratS at hl
  simp only [List.length_append] at hl
  refine ⟨ten_two (dec_lt _) (by omega), ?_⟩
  by_cases h1 : q.den = 1
  · rw [h1]; exact Nat.lt_of_lt_of_le (by decide : 1 < 2 ^ 1) (Nat.pow_le_pow_right (by decide) (by omega))
  · rw [if_neg h1] at hl
    simp only [List.length_cons] at hl
    exact ten_two (dec_lt _) (by omega)

set_option maxHeartbeats 1600000 in
theorem parses_mid (s : ByteArray) (w : World) (hm : Ml w) (h1 : 400 < s.size) (h2 : s.size ≤ 10000) :
    Calls Tryz.prog 4 #[.string s] w (RetV (.bool true) w) := by
  have C := Lib.hid (works_any w hm)
  have h3 : decide ((400 : Int) < (s.size : Int)) = true := by rw [decide_eq_true_eq]; omega
  have h4 : decide ((s.size : Int) ≤ 10000) = true := by rw [decide_eq_true_eq]; omega
  clear hm h1 h2
  go_enter Tryz.func4, Tryz.ntmps4
  go_wp2_with fail
  refine C.out.mono ?_
  rintro e w1 ⟨rfl, hb⟩
  go_wp2
  go_ret
  exact ⟨rfl, hb⟩

set_option maxHeartbeats 1600000 in
theorem parses_none (s : ByteArray) (z : Int) (w : World) (hm : Ml w) (h1 : s.size ≤ 400 ∨ 10000 < s.size)
    (c1 : Calls Tryz.prog 22 #[.string s] w (RetV (.tuple #[.pointer none, .int .i64 z]) w)) (hz : (z != 0) = true)
    (c2 : ∀ w1, Calls Tryz.prog 23 #[.string s] w1 (RetV (.tuple #[.agg #[.bool false, .slice none 0 0, .slice none 0 0], .int .i64 z]) w1)) :
    Calls Tryz.prog 4 #[.string s] w (RetV (.bool true) w) := by
  have HM := Lib.hid (fun w1 (h : Below w.heap.size w w1) => works_any w1 (hm.later h))
  have C1 := Lib.hid c1
  have C2 := Lib.hid c2
  have hzz : (z == z) = true := by simp
  have h3 : decide ((400 : Int) < (s.size : Int)) = false ∨ (decide ((400 : Int) < (s.size : Int)) = true ∧ decide ((s.size : Int) ≤ 10000) = false) := by
    rcases h1 with h | h
    · left; rw [decide_eq_false_iff_not]; omega
    · right; rw [decide_eq_true_eq, decide_eq_false_iff_not]; omega
  clear hm h1 c1 c2
  rcases h3 with h3 | ⟨h3, h4⟩
  all_goals
    go_enter Tryz.func4, Tryz.ntmps4
    go_wp2_with fail
    refine C1.out.mono ?_
    rintro e w1 ⟨rfl, hb1⟩
    have HB1 := Lib.hid hb1
    clear hb1
    go_wp2_with fail
    refine (C2.out _).mono ?_
    rintro e w2 ⟨rfl, hb2⟩
    have HB2 := Lib.hid (below_keep HB1.out (hb2.alloc hb2.size (.cells #[.bool false, .slice none 0 0, .slice none 0 0] 28)))
    have C3 := Lib.hid (HM.out _ HB2.out)
    clear hb2
    go_wp2_with fail
    refine C3.out.mono ?_
    rintro e w3 ⟨rfl, hb3⟩
    have HB3 := Lib.hid (below_keep HB2.out hb3)
    clear hb3
    go_wp2
    go_ret
    exact ⟨rfl, HB3.out⟩

set_option maxHeartbeats 1600000 in
set_option maxRecDepth 100000 in
theorem parses_some (s : ByteArray) (q : Rat) (w : World) (hm : Ml w) (h1 : s.size ≤ 400) (hq : parseQ s.data.toList = some q) :
    Calls Tryz.prog 4 #[.string s] w (RetV (.bool true) w) := by
  have HM := Lib.hid (fun w1 (h : Below w.heap.size w w1) => works_any w1 (hm.later h))
  have c1 := parse_any s w (by omega) hm
  have c2 := fun w1 => parse9_any s w1 (by omega)
  rw [hq] at c1
  simp only [hq] at c2
  have C1 := Lib.hid c1
  have C2 := Lib.hid c2
  have BD := Lib.hid (parse_bd (K := 400) hq (by rw [lenB]; exact h1))
  have h3 : decide ((400 : Int) < (s.size : Int)) = false := by rw [decide_eq_false_iff_not]; omega
  clear hm h1 c1 c2 hq
  go_enter Tryz.func4, Tryz.ntmps4
  go_wp2_with fail
  refine C1.out.mono ?_
  rintro e w1 ⟨v1, rfl, hv1, hb1⟩
  have V1 := Lib.hid hv1
  have HB1 := Lib.hid hb1
  clear hv1 hb1 C1
  go_wp2_with fail
  refine (C2.out _).mono ?_
  rintro e w2 ⟨v2, rfl, ⟨vn, vd, rfl, hn, hd⟩, hb2⟩
  obtain ⟨a, n1, cap, rfl, -⟩ := hn.shape (by decide)
  obtain ⟨a', n', cap', rfl, -⟩ := hd.shape (by decide)
  obtain ⟨b, hq⟩ : ∃ b, b = qneg q := ⟨_, rfl⟩
  rw [← hq]
  obtain ⟨P, p0, PK, PD, PG⟩ := boxP 28 hq hn hd
  have P0 := Lib.hid p0
  have HB2 := Lib.hid (below_keep HB1.out hb2)
  have XR : Hid (∀ w1, P w1 → IsR w1 v1 q) := fun w1 h => (V1.out.later hb2).later (PG.out w1 h).2
  have R9 : Hid (∀ w1, P w1 → Q9 w1 (.agg #[.bool b, .slice a n1 cap, .slice a' n' cap']) q) := fun w1 h => ⟨_, _, by rw [hq], (PG.out w1 h).1.isNum, (PG.out w1 h).1.isDen⟩
  obtain ⟨⟨k0, k1, k2, -, -⟩, -⟩ := PG.out _ p0
  have HS := Lib.hid (same_any (XR.out _ p0) (R9.out _ p0) BD.out (by omega))
  clear hq hn hd p0 hb2 C2
  go_wp2_with fail
  refine HS.out.mono ?_
  rintro e w3 ⟨rfl, hb3⟩
  have P3 := Lib.hid (PK.out _ _ P0.out hb3)
  have HB3 := Lib.hid (below_keep HB2.out (PG.out _ P3.out).2)
  have C3 := Lib.hid (HM.out _ HB3.out)
  clear hb3 k0 k1 k2
  go_wp2_with fail
  refine C3.out.mono ?_
  rintro e w4 ⟨rfl, hb4⟩
  have HB4 := Lib.hid (below_keep HB3.out hb4)
  clear hb4
  go_wp2
  go_ret
  exact ⟨rfl, HB4.out⟩

theorem parses_bytes (s : ByteArray) (w : World) (hm : Ml w) :
    Calls Tryz.prog 4 #[.string s] w (RetV (.bool true) w) := by
  by_cases h1 : s.size ≤ 400
  · cases hq : parseQ s.data.toList with
    | some q => exact parses_some s q w hm h1 hq
    | none =>
      have c1 := parse_any s w (by omega) hm
      rw [hq] at c1
      refine parses_none s 7 w hm (.inl h1) c1 (by decide) fun w1 => ?_
      have c2 := parse9_any s w1 (by omega)
      rw [hq] at c2
      exact c2
  · by_cases h2 : s.size ≤ 10000
    · exact parses_mid s w hm (by omega) h2
    · refine parses_none s 8 w hm (.inr (by omega)) ?_ (by decide) fun w1 => parse9_long s w1 (by omega)
      exact (parse_long s w (by omega)).mono fun e w' ⟨he, hw⟩ => ⟨he, by subst hw; exact Below.refl _ _⟩
theorem parses_any (s : ByteArray) (w : World) (hm : Ml w) (_ : s.size ≤ maxLen) : Calls Tryz.prog 4 #[.string s] w (RetV (.bool true) w) := parses_bytes s w hm
end Go.Proofs.YtemhidlaaommaaaGreatDoor
