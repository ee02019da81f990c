/- ExactMakes: the walk. -/
import Derived.Test.YtemhidlaaommaaaGreatDoorRefM
namespace Go.Proofs.YtemhidlaaommaaaGreatDoor
open Go.RowKit

set_option maxHeartbeats 1600000 in
theorem makes_zero (n : Int) (w : World) (hm : Ml w) :
    Calls Tryz.prog 3 #[.int .i64 n, .int .i64 0] w (RetV (.bool true) w) := by
  have HM := Lib.hid (fun w1 (h : Below w.heap.size w w1) => works_any w1 (hm.later h))
  have C1 := Lib.hid (of_zero n)
  have C2 := Lib.hid (of9_zero n)
  clear hm
  go_enter Tryz.func3, Tryz.ntmps3
  go_wp2_with fail
  refine (C1.out _).mono ?_
  rintro e w1 ⟨rfl, rfl⟩
  go_wp2_with fail
  refine (C2.out _).mono ?_
  rintro e w2 ⟨rfl, hb2⟩
  have HB2 := Lib.hid (hb2.alloc hb2.size (.cells #[.bool false, .slice none 0 0, .slice none 0 0] 28))
  have C3 := Lib.hid (HM.out _ HB2.out)
  clear hb2
  go_wp2_with fail
  refine C3.out.mono ?_
  rintro e w3 ⟨rfl, hb3⟩
  have HB3 := Lib.hid (below_keep HB2.out hb3)
  clear hb3
  go_wp2
  go_ret
  exact ⟨rfl, HB3.out⟩

set_option maxHeartbeats 1600000 in
set_option maxRecDepth 100000 in
theorem makes_some (n d : Int) (w : World) (hm : Ml w) (h1 : -9223372036854775808 ≤ n) (h2 : n ≤ 9223372036854775807) (h3 : -9223372036854775808 ≤ d) (h4 : d ≤ 9223372036854775807) (h0 : d ≠ 0) :
    Calls Tryz.prog 3 #[.int .i64 n, .int .i64 d] w (RetV (.bool true) w) := by
  have HM := Lib.hid (fun w1 (h : Below w.heap.size w w1) => works_any w1 (hm.later h))
  have C1 := Lib.hid (of_any n d w h1 h2 h3 h4 h0)
  have C2 := Lib.hid (fun w1 => of9_any n d w1 h1 h2 h3 h4 h0)
  have BD := Lib.hid (Bd.i64 h1 h2 h3 h4 h0)
  clear hm h1 h2 h3 h4 h0
  go_enter Tryz.func3, Tryz.ntmps3
  go_wp2_with fail
  refine C1.out.mono ?_
  rintro e w1 ⟨v1, rfl, hv1, hb1⟩
  have V1 := Lib.hid hv1
  have HB1 := Lib.hid hb1
  clear hv1 hb1 C1
  go_wp2_with fail
  refine (C2.out _).mono ?_
  rintro e w2 ⟨v2, rfl, ⟨vn, vd, rfl, hn, hd⟩, hb2⟩
  obtain ⟨a, n1, cap, rfl, -⟩ := hn.shape (by decide)
  obtain ⟨a', n', cap', rfl, -⟩ := hd.shape (by decide)
  obtain ⟨b, hq⟩ : ∃ b, b = qneg (quoQ n d) := ⟨_, rfl⟩
  rw [← hq]
  obtain ⟨P, p0, PK, PD, PG⟩ := boxP 28 hq hn hd
  have P0 := Lib.hid p0
  have HB2 := Lib.hid (below_keep HB1.out hb2)
  have XR : Hid (∀ w1, P w1 → IsR w1 v1 (quoQ n d)) := fun w1 h => (V1.out.later hb2).later (PG.out w1 h).2
  have R9 : Hid (∀ w1, P w1 → Q9 w1 (.agg #[.bool b, .slice a n1 cap, .slice a' n' cap']) (quoQ n d)) := fun w1 h => ⟨_, _, by rw [hq], (PG.out w1 h).1.isNum, (PG.out w1 h).1.isDen⟩
  obtain ⟨⟨k0, k1, k2, -, -⟩, -⟩ := PG.out _ p0
  have HS := Lib.hid (same_any (XR.out _ p0) (R9.out _ p0) BD.out (by omega))
  clear hq hn hd p0 hb2 C2
  go_wp2_with fail
  refine HS.out.mono ?_
  rintro e w3 ⟨rfl, hb3⟩
  have P3 := Lib.hid (PK.out _ _ P0.out hb3)
  have HB3 := Lib.hid (below_keep HB2.out (PG.out _ P3.out).2)
  have C3 := Lib.hid (HM.out _ HB3.out)
  clear hb3 k0 k1 k2
  go_wp2_with fail
  refine C3.out.mono ?_
  rintro e w4 ⟨rfl, hb4⟩
  have HB4 := Lib.hid (below_keep HB3.out hb4)
  clear hb4
  go_wp2
  go_ret
  exact ⟨rfl, HB4.out⟩
theorem makes_any (n d : Int) (w : World) (hm : Ml w) (h1 : -9223372036854775808 ≤ n) (h2 : n ≤ 9223372036854775807) (h3 : -9223372036854775808 ≤ d) (h4 : d ≤ 9223372036854775807) :
    Calls Tryz.prog 3 #[.int .i64 n, .int .i64 d] w (RetV (.bool true) w) := by
  by_cases h : d = 0
  · subst h; exact makes_zero n w hm
  · exact makes_some n d w hm h1 h2 h3 h4 h
end Go.Proofs.YtemhidlaaommaaaGreatDoor
