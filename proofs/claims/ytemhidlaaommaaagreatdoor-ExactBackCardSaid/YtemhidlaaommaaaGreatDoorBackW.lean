/- ExactBack: the walk. -/
import Derived.Test.YtemhidlaaommaaaGreatDoorL1
import Derived.Test.YtemhidlaaommaaaGreatDoorOpen
import Derived.Test.YtemhidlaaommaaaGreatDoorW1
namespace Go.Proofs.YtemhidlaaommaaaGreatDoor
open Go.RowKit

theorem str_ne {s t : List UInt8} {S T : ByteArray} (h1 : S = ⟨s.toArray⟩) (h2 : T = ⟨t.toArray⟩) (h : s ≠ t) : (S.toList == T.toList) = false := by
  rw [ByteArray.toList_eq, ByteArray.toList_eq, h1, h2, beq_eq_false_iff_ne]
  intro e; exact h (by simpa using e)
theorem back_len {q : Rat} {k : Nat} (h : Bd (5 * k) q) (hk : 4 * k + 8 ≤ 10000) (h0 : 0 < k) : (ratS q).length ≤ 10000 := by
  have e : (2 : Nat) ^ (5 * k) ≤ 10 ^ (2 * k) := by
    rw [Nat.pow_mul, Nat.pow_mul]
    exact Nat.pow_le_pow_left (by decide) _
  have h1 := dec_len_le (qnum q) (2 * k) (by omega) (Nat.lt_of_lt_of_le h.num e)
  have h2 := dec_len_le q.den (2 * k) (by omega) (Nat.lt_of_lt_of_le h.den e)
  unfold ratS
  simp only [List.length_append]
  split <;> split <;> simp <;> omega
theorem back_parse {q : Rat} (h : Bd 1000 q) (w : World) (hm : Ml w) :
    Calls Tryz.prog 22 #[str (ratS q)] w (RetRE q w) := by
  have := parse_any ⟨(ratS q).toArray⟩ w (by show (ratS q).toArray.size ≤ 10000; simpa using back_len (k := 200) h (by decide) (by decide)) hm
  rw [show (ByteArray.mk (ratS q).toArray).data.toList = ratS q from by simp, parseQ_ratS] at this
  exact this
theorem right_strlen {x : Va} (hx : rightV x = true) : x.str.length ≤ 16 := by
  rcases right_cases hx with ⟨r, h1, h2, rfl⟩ | ⟨b, rfl⟩ | ⟨q, hq, rfl⟩ | ⟨s, h1, h2, rfl⟩
  · simp
  · simp
  · simp
  · exact h1
theorem read_back {x : Va} (hx : rightV x = true) (hl : x.str.length ≤ 16) (w : World) (hm : Ml w) :
    Calls Tryz.prog 34 #[str (printV x)] w (RetV (.tuple #[x.v, .int .i64 0]) w) := by
  have hlen : (printV x).length ≤ 20000 := by
    rcases right_cases hx with ⟨r, h1, h2, rfl⟩ | ⟨b, rfl⟩ | ⟨q, hq, rfl⟩ | ⟨s, h1, h2, rfl⟩
    · rw [print_miss]; have := dec3 (n := r.natAbs) (by omega); simp; omega
    · cases b <;> decide
    · rw [print_rat]; have := ratS_len hq; omega
    · rw [print_text]; have := dbl_len s; simp; omega
  have := read_any ⟨(printV x).toArray⟩ w hm (by show (printV x).toArray.size ≤ 20000; simpa using hlen)
  rw [show (ByteArray.mk (printV x).toArray).data.toList = printV x from by simp, readM_right hx] at this
  unfold readE at this
  rw [if_pos hx] at this
  exact this
theorem read_empty (w : World) (hm : Ml w) : Calls Tryz.prog 34 #[str []] w (RetV (.tuple #[zeroV.v, .int .i64 7]) w) := by
  have := read_any ⟨#[]⟩ w hm (by decide)
  rw [show readM (ByteArray.mk #[]).data.toList = zeroV from by decide] at this
  exact this
theorem print_good {x : Va} (hx : rightV x = true) (w : World) (hm : Ml w) : Calls Tryz.prog 50 #[x.v] w (RetV (.tuple #[str (printV x), .int .i64 0]) w) := by
  have := print_any x w hm
  unfold printE at this
  rw [if_pos hx, if_pos hx] at this; exact this
theorem print_as {x : Va} {S : ByteArray} (hS : S = ⟨(printV x).toArray⟩) (hx : rightV x = true) (w : World) (hm : Ml w) : Calls Tryz.prog 50 #[x.v] w (RetV (.tuple #[.string S, .int .i64 0]) w) :=
  hS ▸ print_good hx w hm
theorem read_as {x : Va} {S : ByteArray} (hS : S = ⟨(printV x).toArray⟩) (hx : rightV x = true) (w : World) (hm : Ml w) : Calls Tryz.prog 34 #[.string S] w (RetV (.tuple #[x.v, .int .i64 0]) w) :=
  hS ▸ read_back hx (right_strlen hx) w hm
theorem print_wrong {x : Va} (hx : rightV x = false) (w : World) (hm : Ml w) : Calls Tryz.prog 50 #[x.v] w (RetV (.tuple #[str [], .int .i64 2]) w) := by
  have := print_any x w hm
  unfold printE at this
  rw [if_neg (by rw [hx]; decide), if_neg (by rw [hx]; decide)] at this; exact this
theorem check_good {x : Va} (hx : rightV x = true) (w : World) : Calls Tryz.prog 51 #[x.v] w (RetV (.int .i64 0) w) := by
  have := check_any x w
  rw [if_pos hx] at this; exact this
theorem check_bad {x : Va} (hx : rightV x = false) (w : World) : Calls Tryz.prog 51 #[x.v] w (RetV (.int .i64 2) w) := by
  have := check_any x w
  rw [if_neg (by rw [hx]; decide)] at this; exact this

theorem back_big (a : Option Addr) (m p : Nat) (x y : Va) (w : World) (hm : Ml w) (h : 12 < m) :
    Calls Tryz.prog 12 #[.slice a m p, x.v, y.v] w (RetV (.bool true) w) := by
  have C := Lib.hid (fun (w1 : World) (h : Below w.heap.size w w1) => works_any w1 (hm.later h))
  clear hm
  go_enter Tryz.func12, Tryz.ntmps12
  go_wp2_with fail
  have hb0 : Below w.heap.size w ((w.alloc (.cells #[.int .i64 x.kind, .int .i64 x.num, .int .i64 x.den, .string ⟨x.str.toArray⟩] 45)).alloc (.cells #[.int .i64 y.kind, .int .i64 y.num, .int .i64 y.den, .string ⟨y.str.toArray⟩] 45)) := (below_alloc _ _).alloc (by simp) _
  refine (C.out _ hb0).mono ?_
  rintro e w1 ⟨rfl, hb⟩
  go_wp2
  go_ret
  exact ⟨rfl, below_keep hb0 hb⟩

set_option maxHeartbeats 16000000 in
set_option maxRecDepth 100000 in
theorem back_bb (q : Rat) (x y : Va) (a : Option Addr) (m p : Nat) (w : World) (hm : Ml w) (h1 : m ≤ 12) (bq : Bd 1000 q)
    (cX : ∀ w1, Below w.heap.size w w1 → Calls Tryz.prog 40 #[.slice a m p] w1 (RetR q w1)) (hvx : rightV x = false) (hvy : rightV y = false) :
    Calls Tryz.prog 12 #[.slice a m p, x.v, y.v] w (RetV (.bool true) w) := by
  obtain ⟨w0, hw0⟩ : ∃ w0, w0 = ((w.alloc (.cells #[.int .i64 x.kind, .int .i64 x.num, .int .i64 x.den, .string ⟨x.str.toArray⟩] 45)).alloc (.cells #[.int .i64 y.kind, .int .i64 y.num, .int .i64 y.den, .string ⟨y.str.toArray⟩] 45)) := ⟨_, rfl⟩
  have hb0 : Below w.heap.size w w0 := by rw [hw0]; exact (below_alloc _ _).alloc (by simp) _
  have HBX : Hid (VaAt w0 w.heap.size 0 x) := by
    show VaAt _ _ _ _
    rw [hw0]
    constructor <;> (rw [World.cell?_alloc_lt _ _ _ (by simp), World.cell?_alloc_at _ _ _ _ rfl]; rfl)
  have HBY : Hid (VaAt w0 (w.heap.size + 1) 0 y) := by
    show VaAt _ _ _ _
    rw [hw0]
    constructor <;> (rw [World.cell?_alloc_at _ _ _ _ (by simp)]; rfl)
  have HW0 := Lib.hid hb0
  have HB0 := Lib.hid (Below.refl w0.heap.size w0)
  have HM := Lib.hid (fun w1 (h : Below w0.heap.size w0 w1) => hm.later (below_keep hb0 h))
  have HX := Lib.hid (fun w1 (h : Below w0.heap.size w0 w1) => cX w1 (below_keep hb0 h))
  have bq := Lib.hid bq
  have hvx := Lib.hid hvx
  have hvy := Lib.hid hvy
  rename_i s1 s2
  clear s1 s2
  rename_i t1
  clear t1 hm cX hb0
  go_enter Tryz.func12, Tryz.ntmps12
  go_wp2_with fail
  rw [← hw0]
  clear hw0
  skip
  refine (HX.out _ HB0.out).mono ?_
  rintro e w1 ⟨v1, rfl, hv1, hb1⟩
  have HB1 := Lib.hid (below_keep HB0.out hb1)
  have Rx_1 := Lib.hid hv1
  obtain ⟨g1, vn1, vd1, hs1, -⟩ := hv1
  subst hs1
  clear hb1
  go_wp2_with fail
  refine (ratText_any Rx_1.out (bq.out.smR (by omega))).mono ?_
  rintro e w2 ⟨rfl, hb2⟩
  have HB2 := Lib.hid (below_keep HB1.out hb2)
  have Rx_2 := Lib.hid (Rx_1.out.later hb2)
  clear hb2
  go_wp2_with fail
  refine (back_parse bq.out _ (HM.out _ HB2.out)).mono ?_
  rintro e w3 ⟨v3, rfl, hv3, hb3⟩
  have HB3 := Lib.hid (below_keep HB2.out hb3)
  have Rx_3 := Lib.hid (Rx_2.out.later hb3)
  have Ry_3 := Lib.hid hv3
  obtain ⟨g3, vn3, vd3, hs3, -⟩ := hv3
  subst hs3
  clear hb3
  go_wp2_with fail
  refine (equal_yes Rx_3.out Ry_3.out bq.out (by omega)).mono ?_
  rintro e w4 ⟨rfl, hb4⟩
  have HB4 := Lib.hid (below_keep HB3.out hb4)
  clear hb4
  obtain ⟨x0, x1, x2, x3⟩ := (HBX.out.later' HB4.out)
  go_wp2_with fail
  refine (print_wrong hvx.out _ (HM.out _ HB4.out)).mono ?_
  rintro e w5 ⟨rfl, hb5⟩
  have HB5 := Lib.hid (below_keep HB4.out hb5)
  clear hb5
  obtain ⟨y0, y1, y2, y3⟩ := (HBY.out.later' HB5.out)
  clear x0 x1 x2 x3
  go_wp2_with fail
  refine (print_wrong hvy.out _ (HM.out _ HB5.out)).mono ?_
  rintro e w6 ⟨rfl, hb6⟩
  have HB6 := Lib.hid (below_keep HB5.out hb6)
  clear hb6
  clear y0 y1 y2 y3
  obtain ⟨x0, x1, x2, x3⟩ := (HBX.out.later' HB6.out)
  go_wp2_with fail
  refine (check_bad hvx.out _).mono ?_
  rintro e w7 ⟨rfl, hb7⟩
  have HB7 := Lib.hid (below_keep HB6.out hb7)
  clear hb7
  clear x0 x1 x2 x3
  obtain ⟨x0, x1, x2, x3⟩ := (HBX.out.later' HB7.out)
  go_wp2_with fail
  refine (read_empty _ (HM.out _ HB7.out)).mono ?_
  rintro e w8 ⟨rfl, hb8⟩
  have HB8 := Lib.hid (below_keep HB7.out hb8)
  clear hb8
  clear x0 x1 x2 x3
  have HBA := Lib.hid (HB8.out.alloc HB8.out.size (.cells #[.int .i64 zeroV.kind, .int .i64 zeroV.num, .int .i64 zeroV.den, .string ⟨zeroV.str.toArray⟩] 45))
  obtain ⟨x0, x1, x2, x3⟩ := (HBX.out.later' HBA.out)
  have HB9 := HBA
  go_wp2_with fail
  refine (works_any _ (HM.out _ HB9.out)).mono ?_
  rintro e w10 ⟨rfl, hb10⟩
  have HB10 := Lib.hid (below_keep HB9.out hb10)
  clear hb10
  go_wp2
  go_ret
  exact ⟨rfl, below_keep HW0.out HB10.out⟩

set_option maxHeartbeats 16000000 in
set_option maxRecDepth 100000 in
theorem back_bg (q : Rat) (x y : Va) (a : Option Addr) (m p : Nat) (w : World) (hm : Ml w) (h1 : m ≤ 12) (bq : Bd 1000 q)
    (cX : ∀ w1, Below w.heap.size w w1 → Calls Tryz.prog 40 #[.slice a m p] w1 (RetR q w1)) (hvx : rightV x = false) (hvy : rightV y = true) (S2 : ByteArray) (hS2 : S2 = ⟨(printV y).toArray⟩) :
    Calls Tryz.prog 12 #[.slice a m p, x.v, y.v] w (RetV (.bool true) w) := by
  obtain ⟨w0, hw0⟩ : ∃ w0, w0 = ((w.alloc (.cells #[.int .i64 x.kind, .int .i64 x.num, .int .i64 x.den, .string ⟨x.str.toArray⟩] 45)).alloc (.cells #[.int .i64 y.kind, .int .i64 y.num, .int .i64 y.den, .string ⟨y.str.toArray⟩] 45)) := ⟨_, rfl⟩
  have hb0 : Below w.heap.size w w0 := by rw [hw0]; exact (below_alloc _ _).alloc (by simp) _
  have HBX : Hid (VaAt w0 w.heap.size 0 x) := by
    show VaAt _ _ _ _
    rw [hw0]
    constructor <;> (rw [World.cell?_alloc_lt _ _ _ (by simp), World.cell?_alloc_at _ _ _ _ rfl]; rfl)
  have HBY : Hid (VaAt w0 (w.heap.size + 1) 0 y) := by
    show VaAt _ _ _ _
    rw [hw0]
    constructor <;> (rw [World.cell?_alloc_at _ _ _ _ (by simp)]; rfl)
  have HW0 := Lib.hid hb0
  have HB0 := Lib.hid (Below.refl w0.heap.size w0)
  have HM := Lib.hid (fun w1 (h : Below w0.heap.size w0 w1) => hm.later (below_keep hb0 h))
  have HX := Lib.hid (fun w1 (h : Below w0.heap.size w0 w1) => cX w1 (below_keep hb0 h))
  have bq := Lib.hid bq
  have hvx := Lib.hid hvx
  have hvy := Lib.hid hvy
  rename_i s1 s2
  clear s1 s2
  have hS2 := Lib.hid hS2
  rename_i s4
  clear s4
  rename_i t1
  clear t1 hm cX hb0
  go_enter Tryz.func12, Tryz.ntmps12
  go_wp2_with fail
  rw [← hw0]
  clear hw0
  skip
  refine (HX.out _ HB0.out).mono ?_
  rintro e w1 ⟨v1, rfl, hv1, hb1⟩
  have HB1 := Lib.hid (below_keep HB0.out hb1)
  have Rx_1 := Lib.hid hv1
  obtain ⟨g1, vn1, vd1, hs1, -⟩ := hv1
  subst hs1
  clear hb1
  go_wp2_with fail
  refine (ratText_any Rx_1.out (bq.out.smR (by omega))).mono ?_
  rintro e w2 ⟨rfl, hb2⟩
  have HB2 := Lib.hid (below_keep HB1.out hb2)
  have Rx_2 := Lib.hid (Rx_1.out.later hb2)
  clear hb2
  go_wp2_with fail
  refine (back_parse bq.out _ (HM.out _ HB2.out)).mono ?_
  rintro e w3 ⟨v3, rfl, hv3, hb3⟩
  have HB3 := Lib.hid (below_keep HB2.out hb3)
  have Rx_3 := Lib.hid (Rx_2.out.later hb3)
  have Ry_3 := Lib.hid hv3
  obtain ⟨g3, vn3, vd3, hs3, -⟩ := hv3
  subst hs3
  clear hb3
  go_wp2_with fail
  refine (equal_yes Rx_3.out Ry_3.out bq.out (by omega)).mono ?_
  rintro e w4 ⟨rfl, hb4⟩
  have HB4 := Lib.hid (below_keep HB3.out hb4)
  clear hb4
  obtain ⟨x0, x1, x2, x3⟩ := (HBX.out.later' HB4.out)
  go_wp2_with fail
  refine (print_wrong hvx.out _ (HM.out _ HB4.out)).mono ?_
  rintro e w5 ⟨rfl, hb5⟩
  have HB5 := Lib.hid (below_keep HB4.out hb5)
  clear hb5
  obtain ⟨y0, y1, y2, y3⟩ := (HBY.out.later' HB5.out)
  clear x0 x1 x2 x3
  go_wp2_with fail
  refine (print_as hS2.out hvy.out _ (HM.out _ HB5.out)).mono ?_
  rintro e w6 ⟨rfl, hb6⟩
  have HB6 := Lib.hid (below_keep HB5.out hb6)
  clear hb6
  clear y0 y1 y2 y3
  obtain ⟨x0, x1, x2, x3⟩ := (HBX.out.later' HB6.out)
  go_wp2_with fail
  refine (check_bad hvx.out _).mono ?_
  rintro e w7 ⟨rfl, hb7⟩
  have HB7 := Lib.hid (below_keep HB6.out hb7)
  clear hb7
  clear x0 x1 x2 x3
  obtain ⟨x0, x1, x2, x3⟩ := (HBX.out.later' HB7.out)
  go_wp2_with fail
  refine (read_empty _ (HM.out _ HB7.out)).mono ?_
  rintro e w8 ⟨rfl, hb8⟩
  have HB8 := Lib.hid (below_keep HB7.out hb8)
  clear hb8
  clear x0 x1 x2 x3
  have HBA := Lib.hid (HB8.out.alloc HB8.out.size (.cells #[.int .i64 zeroV.kind, .int .i64 zeroV.num, .int .i64 zeroV.den, .string ⟨zeroV.str.toArray⟩] 45))
  obtain ⟨x0, x1, x2, x3⟩ := (HBX.out.later' HBA.out)
  have HB9 := HBA
  go_wp2_with fail
  refine (works_any _ (HM.out _ HB9.out)).mono ?_
  rintro e w10 ⟨rfl, hb10⟩
  have HB10 := Lib.hid (below_keep HB9.out hb10)
  clear hb10
  go_wp2
  go_ret
  exact ⟨rfl, below_keep HW0.out HB10.out⟩

set_option maxHeartbeats 16000000 in
set_option maxRecDepth 100000 in
theorem back_gb (q : Rat) (x y : Va) (a : Option Addr) (m p : Nat) (w : World) (hm : Ml w) (h1 : m ≤ 12) (bq : Bd 1000 q)
    (cX : ∀ w1, Below w.heap.size w w1 → Calls Tryz.prog 40 #[.slice a m p] w1 (RetR q w1)) (hvx : rightV x = true) (hvy : rightV y = false) (S1 : ByteArray) (hS1 : S1 = ⟨(printV x).toArray⟩) :
    Calls Tryz.prog 12 #[.slice a m p, x.v, y.v] w (RetV (.bool true) w) := by
  obtain ⟨w0, hw0⟩ : ∃ w0, w0 = ((w.alloc (.cells #[.int .i64 x.kind, .int .i64 x.num, .int .i64 x.den, .string ⟨x.str.toArray⟩] 45)).alloc (.cells #[.int .i64 y.kind, .int .i64 y.num, .int .i64 y.den, .string ⟨y.str.toArray⟩] 45)) := ⟨_, rfl⟩
  have hb0 : Below w.heap.size w w0 := by rw [hw0]; exact (below_alloc _ _).alloc (by simp) _
  have HBX : Hid (VaAt w0 w.heap.size 0 x) := by
    show VaAt _ _ _ _
    rw [hw0]
    constructor <;> (rw [World.cell?_alloc_lt _ _ _ (by simp), World.cell?_alloc_at _ _ _ _ rfl]; rfl)
  have HBY : Hid (VaAt w0 (w.heap.size + 1) 0 y) := by
    show VaAt _ _ _ _
    rw [hw0]
    constructor <;> (rw [World.cell?_alloc_at _ _ _ _ (by simp)]; rfl)
  have HW0 := Lib.hid hb0
  have HB0 := Lib.hid (Below.refl w0.heap.size w0)
  have HM := Lib.hid (fun w1 (h : Below w0.heap.size w0 w1) => hm.later (below_keep hb0 h))
  have HX := Lib.hid (fun w1 (h : Below w0.heap.size w0 w1) => cX w1 (below_keep hb0 h))
  have bq := Lib.hid bq
  have hvx := Lib.hid hvx
  have hvy := Lib.hid hvy
  rename_i s1 s2
  clear s1 s2
  have hS1 := Lib.hid hS1
  rename_i s3
  clear s3
  rename_i t1
  clear t1 hm cX hb0
  go_enter Tryz.func12, Tryz.ntmps12
  go_wp2_with fail
  rw [← hw0]
  clear hw0
  skip
  refine (HX.out _ HB0.out).mono ?_
  rintro e w1 ⟨v1, rfl, hv1, hb1⟩
  have HB1 := Lib.hid (below_keep HB0.out hb1)
  have Rx_1 := Lib.hid hv1
  obtain ⟨g1, vn1, vd1, hs1, -⟩ := hv1
  subst hs1
  clear hb1
  go_wp2_with fail
  refine (ratText_any Rx_1.out (bq.out.smR (by omega))).mono ?_
  rintro e w2 ⟨rfl, hb2⟩
  have HB2 := Lib.hid (below_keep HB1.out hb2)
  have Rx_2 := Lib.hid (Rx_1.out.later hb2)
  clear hb2
  go_wp2_with fail
  refine (back_parse bq.out _ (HM.out _ HB2.out)).mono ?_
  rintro e w3 ⟨v3, rfl, hv3, hb3⟩
  have HB3 := Lib.hid (below_keep HB2.out hb3)
  have Rx_3 := Lib.hid (Rx_2.out.later hb3)
  have Ry_3 := Lib.hid hv3
  obtain ⟨g3, vn3, vd3, hs3, -⟩ := hv3
  subst hs3
  clear hb3
  go_wp2_with fail
  refine (equal_yes Rx_3.out Ry_3.out bq.out (by omega)).mono ?_
  rintro e w4 ⟨rfl, hb4⟩
  have HB4 := Lib.hid (below_keep HB3.out hb4)
  clear hb4
  obtain ⟨x0, x1, x2, x3⟩ := (HBX.out.later' HB4.out)
  go_wp2_with fail
  refine (print_as hS1.out hvx.out _ (HM.out _ HB4.out)).mono ?_
  rintro e w5 ⟨rfl, hb5⟩
  have HB5 := Lib.hid (below_keep HB4.out hb5)
  clear hb5
  obtain ⟨y0, y1, y2, y3⟩ := (HBY.out.later' HB5.out)
  clear x0 x1 x2 x3
  go_wp2_with fail
  refine (print_wrong hvy.out _ (HM.out _ HB5.out)).mono ?_
  rintro e w6 ⟨rfl, hb6⟩
  have HB6 := Lib.hid (below_keep HB5.out hb6)
  clear hb6
  clear y0 y1 y2 y3
  obtain ⟨x0, x1, x2, x3⟩ := (HBX.out.later' HB6.out)
  go_wp2_with fail
  refine (check_good hvx.out _).mono ?_
  rintro e w7 ⟨rfl, hb7⟩
  have HB7 := Lib.hid (below_keep HB6.out hb7)
  clear hb7
  clear x0 x1 x2 x3
  obtain ⟨x0, x1, x2, x3⟩ := (HBX.out.later' HB7.out)
  go_wp2_with fail
  refine (read_as hS1.out hvx.out _ (HM.out _ HB7.out)).mono ?_
  rintro e w8 ⟨rfl, hb8⟩
  have HB8 := Lib.hid (below_keep HB7.out hb8)
  clear hb8
  clear x0 x1 x2 x3
  have HBA := Lib.hid (HB8.out.alloc HB8.out.size (.cells #[.int .i64 x.kind, .int .i64 x.num, .int .i64 x.den, .string ⟨x.str.toArray⟩] 45))
  obtain ⟨x0, x1, x2, x3⟩ := (HBX.out.later' HBA.out)
  have HB9 := HBA
  go_wp2_with fail
  refine (works_any _ (HM.out _ HB9.out)).mono ?_
  rintro e w10 ⟨rfl, hb10⟩
  have HB10 := Lib.hid (below_keep HB9.out hb10)
  clear hb10
  go_wp2
  go_ret
  exact ⟨rfl, below_keep HW0.out HB10.out⟩

set_option maxHeartbeats 16000000 in
set_option maxRecDepth 100000 in
theorem back_gd0 (q : Rat) (x y : Va) (a : Option Addr) (m p : Nat) (w : World) (hm : Ml w) (h1 : m ≤ 12) (bq : Bd 1000 q)
    (cX : ∀ w1, Below w.heap.size w w1 → Calls Tryz.prog 40 #[.slice a m p] w1 (RetR q w1)) (hvx : rightV x = true) (hvy : rightV y = true) (S1 : ByteArray) (hS1 : S1 = ⟨(printV x).toArray⟩) (S2 : ByteArray) (hS2 : S2 = ⟨(printV y).toArray⟩) (hs : (S1.toList == S2.toList) = false) (v0 : (x.kind == y.kind) = false) :
    Calls Tryz.prog 12 #[.slice a m p, x.v, y.v] w (RetV (.bool true) w) := by
  obtain ⟨w0, hw0⟩ : ∃ w0, w0 = ((w.alloc (.cells #[.int .i64 x.kind, .int .i64 x.num, .int .i64 x.den, .string ⟨x.str.toArray⟩] 45)).alloc (.cells #[.int .i64 y.kind, .int .i64 y.num, .int .i64 y.den, .string ⟨y.str.toArray⟩] 45)) := ⟨_, rfl⟩
  have hb0 : Below w.heap.size w w0 := by rw [hw0]; exact (below_alloc _ _).alloc (by simp) _
  have HBX : Hid (VaAt w0 w.heap.size 0 x) := by
    show VaAt _ _ _ _
    rw [hw0]
    constructor <;> (rw [World.cell?_alloc_lt _ _ _ (by simp), World.cell?_alloc_at _ _ _ _ rfl]; rfl)
  have HBY : Hid (VaAt w0 (w.heap.size + 1) 0 y) := by
    show VaAt _ _ _ _
    rw [hw0]
    constructor <;> (rw [World.cell?_alloc_at _ _ _ _ (by simp)]; rfl)
  have HW0 := Lib.hid hb0
  have HB0 := Lib.hid (Below.refl w0.heap.size w0)
  have HM := Lib.hid (fun w1 (h : Below w0.heap.size w0 w1) => hm.later (below_keep hb0 h))
  have HX := Lib.hid (fun w1 (h : Below w0.heap.size w0 w1) => cX w1 (below_keep hb0 h))
  have bq := Lib.hid bq
  have hvx := Lib.hid hvx
  have hvy := Lib.hid hvy
  rename_i s1 s2
  clear s1 s2
  have hS1 := Lib.hid hS1
  rename_i s3
  clear s3
  have hS2 := Lib.hid hS2
  rename_i s4
  clear s4
  rename_i t1
  clear t1 hm cX hb0
  go_enter Tryz.func12, Tryz.ntmps12
  go_wp2_with fail
  rw [← hw0]
  clear hw0
  skip
  refine (HX.out _ HB0.out).mono ?_
  rintro e w1 ⟨v1, rfl, hv1, hb1⟩
  have HB1 := Lib.hid (below_keep HB0.out hb1)
  have Rx_1 := Lib.hid hv1
  obtain ⟨g1, vn1, vd1, hs1, -⟩ := hv1
  subst hs1
  clear hb1
  go_wp2_with fail
  refine (ratText_any Rx_1.out (bq.out.smR (by omega))).mono ?_
  rintro e w2 ⟨rfl, hb2⟩
  have HB2 := Lib.hid (below_keep HB1.out hb2)
  have Rx_2 := Lib.hid (Rx_1.out.later hb2)
  clear hb2
  go_wp2_with fail
  refine (back_parse bq.out _ (HM.out _ HB2.out)).mono ?_
  rintro e w3 ⟨v3, rfl, hv3, hb3⟩
  have HB3 := Lib.hid (below_keep HB2.out hb3)
  have Rx_3 := Lib.hid (Rx_2.out.later hb3)
  have Ry_3 := Lib.hid hv3
  obtain ⟨g3, vn3, vd3, hs3, -⟩ := hv3
  subst hs3
  clear hb3
  go_wp2_with fail
  refine (equal_yes Rx_3.out Ry_3.out bq.out (by omega)).mono ?_
  rintro e w4 ⟨rfl, hb4⟩
  have HB4 := Lib.hid (below_keep HB3.out hb4)
  clear hb4
  obtain ⟨x0, x1, x2, x3⟩ := (HBX.out.later' HB4.out)
  go_wp2_with fail
  refine (print_as hS1.out hvx.out _ (HM.out _ HB4.out)).mono ?_
  rintro e w5 ⟨rfl, hb5⟩
  have HB5 := Lib.hid (below_keep HB4.out hb5)
  clear hb5
  obtain ⟨y0, y1, y2, y3⟩ := (HBY.out.later' HB5.out)
  clear x0 x1 x2 x3
  go_wp2_with fail
  refine (print_as hS2.out hvy.out _ (HM.out _ HB5.out)).mono ?_
  rintro e w6 ⟨rfl, hb6⟩
  have HB6 := Lib.hid (below_keep HB5.out hb6)
  clear hb6
  clear y0 y1 y2 y3
  obtain ⟨x0, x1, x2, x3⟩ := (HBX.out.later' HB6.out)
  go_wp2_with fail
  refine (check_good hvx.out _).mono ?_
  rintro e w7 ⟨rfl, hb7⟩
  have HB7 := Lib.hid (below_keep HB6.out hb7)
  clear hb7
  clear x0 x1 x2 x3
  obtain ⟨x0, x1, x2, x3⟩ := (HBX.out.later' HB7.out)
  obtain ⟨y0, y1, y2, y3⟩ := (HBY.out.later' HB7.out)
  go_wp2_with fail
  refine (read_as hS1.out hvx.out _ (HM.out _ HB7.out)).mono ?_
  rintro e w8 ⟨rfl, hb8⟩
  have HB8 := Lib.hid (below_keep HB7.out hb8)
  clear hb8
  clear x0 x1 x2 x3 y0 y1 y2 y3
  have HBA := Lib.hid (HB8.out.alloc HB8.out.size (.cells #[.int .i64 x.kind, .int .i64 x.num, .int .i64 x.den, .string ⟨x.str.toArray⟩] 45))
  obtain ⟨x0, x1, x2, x3⟩ := (HBX.out.later' HBA.out)
  have HB9 := HBA
  go_wp2_with fail
  refine (works_any _ (HM.out _ HB9.out)).mono ?_
  rintro e w10 ⟨rfl, hb10⟩
  have HB10 := Lib.hid (below_keep HB9.out hb10)
  clear hb10
  go_wp2
  go_ret
  exact ⟨rfl, below_keep HW0.out HB10.out⟩

set_option maxHeartbeats 16000000 in
set_option maxRecDepth 100000 in
theorem back_gd1 (q : Rat) (x y : Va) (a : Option Addr) (m p : Nat) (w : World) (hm : Ml w) (h1 : m ≤ 12) (bq : Bd 1000 q)
    (cX : ∀ w1, Below w.heap.size w w1 → Calls Tryz.prog 40 #[.slice a m p] w1 (RetR q w1)) (hvx : rightV x = true) (hvy : rightV y = true) (S1 : ByteArray) (hS1 : S1 = ⟨(printV x).toArray⟩) (S2 : ByteArray) (hS2 : S2 = ⟨(printV y).toArray⟩) (hs : (S1.toList == S2.toList) = false) (v0 : (x.kind == y.kind) = true) (v1 : (x.num == y.num) = false) :
    Calls Tryz.prog 12 #[.slice a m p, x.v, y.v] w (RetV (.bool true) w) := by
  obtain ⟨w0, hw0⟩ : ∃ w0, w0 = ((w.alloc (.cells #[.int .i64 x.kind, .int .i64 x.num, .int .i64 x.den, .string ⟨x.str.toArray⟩] 45)).alloc (.cells #[.int .i64 y.kind, .int .i64 y.num, .int .i64 y.den, .string ⟨y.str.toArray⟩] 45)) := ⟨_, rfl⟩
  have hb0 : Below w.heap.size w w0 := by rw [hw0]; exact (below_alloc _ _).alloc (by simp) _
  have HBX : Hid (VaAt w0 w.heap.size 0 x) := by
    show VaAt _ _ _ _
    rw [hw0]
    constructor <;> (rw [World.cell?_alloc_lt _ _ _ (by simp), World.cell?_alloc_at _ _ _ _ rfl]; rfl)
  have HBY : Hid (VaAt w0 (w.heap.size + 1) 0 y) := by
    show VaAt _ _ _ _
    rw [hw0]
    constructor <;> (rw [World.cell?_alloc_at _ _ _ _ (by simp)]; rfl)
  have HW0 := Lib.hid hb0
  have HB0 := Lib.hid (Below.refl w0.heap.size w0)
  have HM := Lib.hid (fun w1 (h : Below w0.heap.size w0 w1) => hm.later (below_keep hb0 h))
  have HX := Lib.hid (fun w1 (h : Below w0.heap.size w0 w1) => cX w1 (below_keep hb0 h))
  have bq := Lib.hid bq
  have hvx := Lib.hid hvx
  have hvy := Lib.hid hvy
  rename_i s1 s2
  clear s1 s2
  have hS1 := Lib.hid hS1
  rename_i s3
  clear s3
  have hS2 := Lib.hid hS2
  rename_i s4
  clear s4
  rename_i t1
  clear t1 hm cX hb0
  go_enter Tryz.func12, Tryz.ntmps12
  go_wp2_with fail
  rw [← hw0]
  clear hw0
  skip
  refine (HX.out _ HB0.out).mono ?_
  rintro e w1 ⟨v1, rfl, hv1, hb1⟩
  have HB1 := Lib.hid (below_keep HB0.out hb1)
  have Rx_1 := Lib.hid hv1
  obtain ⟨g1, vn1, vd1, hs1, -⟩ := hv1
  subst hs1
  clear hb1
  go_wp2_with fail
  refine (ratText_any Rx_1.out (bq.out.smR (by omega))).mono ?_
  rintro e w2 ⟨rfl, hb2⟩
  have HB2 := Lib.hid (below_keep HB1.out hb2)
  have Rx_2 := Lib.hid (Rx_1.out.later hb2)
  clear hb2
  go_wp2_with fail
  refine (back_parse bq.out _ (HM.out _ HB2.out)).mono ?_
  rintro e w3 ⟨v3, rfl, hv3, hb3⟩
  have HB3 := Lib.hid (below_keep HB2.out hb3)
  have Rx_3 := Lib.hid (Rx_2.out.later hb3)
  have Ry_3 := Lib.hid hv3
  obtain ⟨g3, vn3, vd3, hs3, -⟩ := hv3
  subst hs3
  clear hb3
  go_wp2_with fail
  refine (equal_yes Rx_3.out Ry_3.out bq.out (by omega)).mono ?_
  rintro e w4 ⟨rfl, hb4⟩
  have HB4 := Lib.hid (below_keep HB3.out hb4)
  clear hb4
  obtain ⟨x0, x1, x2, x3⟩ := (HBX.out.later' HB4.out)
  go_wp2_with fail
  refine (print_as hS1.out hvx.out _ (HM.out _ HB4.out)).mono ?_
  rintro e w5 ⟨rfl, hb5⟩
  have HB5 := Lib.hid (below_keep HB4.out hb5)
  clear hb5
  obtain ⟨y0, y1, y2, y3⟩ := (HBY.out.later' HB5.out)
  clear x0 x1 x2 x3
  go_wp2_with fail
  refine (print_as hS2.out hvy.out _ (HM.out _ HB5.out)).mono ?_
  rintro e w6 ⟨rfl, hb6⟩
  have HB6 := Lib.hid (below_keep HB5.out hb6)
  clear hb6
  clear y0 y1 y2 y3
  obtain ⟨x0, x1, x2, x3⟩ := (HBX.out.later' HB6.out)
  go_wp2_with fail
  refine (check_good hvx.out _).mono ?_
  rintro e w7 ⟨rfl, hb7⟩
  have HB7 := Lib.hid (below_keep HB6.out hb7)
  clear hb7
  clear x0 x1 x2 x3
  obtain ⟨x0, x1, x2, x3⟩ := (HBX.out.later' HB7.out)
  obtain ⟨y0, y1, y2, y3⟩ := (HBY.out.later' HB7.out)
  go_wp2_with fail
  refine (read_as hS1.out hvx.out _ (HM.out _ HB7.out)).mono ?_
  rintro e w8 ⟨rfl, hb8⟩
  have HB8 := Lib.hid (below_keep HB7.out hb8)
  clear hb8
  clear x0 x1 x2 x3 y0 y1 y2 y3
  have HBA := Lib.hid (HB8.out.alloc HB8.out.size (.cells #[.int .i64 x.kind, .int .i64 x.num, .int .i64 x.den, .string ⟨x.str.toArray⟩] 45))
  obtain ⟨x0, x1, x2, x3⟩ := (HBX.out.later' HBA.out)
  have HB9 := HBA
  go_wp2_with fail
  refine (works_any _ (HM.out _ HB9.out)).mono ?_
  rintro e w10 ⟨rfl, hb10⟩
  have HB10 := Lib.hid (below_keep HB9.out hb10)
  clear hb10
  go_wp2
  go_ret
  exact ⟨rfl, below_keep HW0.out HB10.out⟩

set_option maxHeartbeats 16000000 in
set_option maxRecDepth 100000 in
theorem back_gd2 (q : Rat) (x y : Va) (a : Option Addr) (m p : Nat) (w : World) (hm : Ml w) (h1 : m ≤ 12) (bq : Bd 1000 q)
    (cX : ∀ w1, Below w.heap.size w w1 → Calls Tryz.prog 40 #[.slice a m p] w1 (RetR q w1)) (hvx : rightV x = true) (hvy : rightV y = true) (S1 : ByteArray) (hS1 : S1 = ⟨(printV x).toArray⟩) (S2 : ByteArray) (hS2 : S2 = ⟨(printV y).toArray⟩) (hs : (S1.toList == S2.toList) = false) (v0 : (x.kind == y.kind) = true) (v1 : (x.num == y.num) = true) (v2 : (x.den == y.den) = false) :
    Calls Tryz.prog 12 #[.slice a m p, x.v, y.v] w (RetV (.bool true) w) := by
  obtain ⟨w0, hw0⟩ : ∃ w0, w0 = ((w.alloc (.cells #[.int .i64 x.kind, .int .i64 x.num, .int .i64 x.den, .string ⟨x.str.toArray⟩] 45)).alloc (.cells #[.int .i64 y.kind, .int .i64 y.num, .int .i64 y.den, .string ⟨y.str.toArray⟩] 45)) := ⟨_, rfl⟩
  have hb0 : Below w.heap.size w w0 := by rw [hw0]; exact (below_alloc _ _).alloc (by simp) _
  have HBX : Hid (VaAt w0 w.heap.size 0 x) := by
    show VaAt _ _ _ _
    rw [hw0]
    constructor <;> (rw [World.cell?_alloc_lt _ _ _ (by simp), World.cell?_alloc_at _ _ _ _ rfl]; rfl)
  have HBY : Hid (VaAt w0 (w.heap.size + 1) 0 y) := by
    show VaAt _ _ _ _
    rw [hw0]
    constructor <;> (rw [World.cell?_alloc_at _ _ _ _ (by simp)]; rfl)
  have HW0 := Lib.hid hb0
  have HB0 := Lib.hid (Below.refl w0.heap.size w0)
  have HM := Lib.hid (fun w1 (h : Below w0.heap.size w0 w1) => hm.later (below_keep hb0 h))
  have HX := Lib.hid (fun w1 (h : Below w0.heap.size w0 w1) => cX w1 (below_keep hb0 h))
  have bq := Lib.hid bq
  have hvx := Lib.hid hvx
  have hvy := Lib.hid hvy
  rename_i s1 s2
  clear s1 s2
  have hS1 := Lib.hid hS1
  rename_i s3
  clear s3
  have hS2 := Lib.hid hS2
  rename_i s4
  clear s4
  rename_i t1
  clear t1 hm cX hb0
  go_enter Tryz.func12, Tryz.ntmps12
  go_wp2_with fail
  rw [← hw0]
  clear hw0
  skip
  refine (HX.out _ HB0.out).mono ?_
  rintro e w1 ⟨v1, rfl, hv1, hb1⟩
  have HB1 := Lib.hid (below_keep HB0.out hb1)
  have Rx_1 := Lib.hid hv1
  obtain ⟨g1, vn1, vd1, hs1, -⟩ := hv1
  subst hs1
  clear hb1
  go_wp2_with fail
  refine (ratText_any Rx_1.out (bq.out.smR (by omega))).mono ?_
  rintro e w2 ⟨rfl, hb2⟩
  have HB2 := Lib.hid (below_keep HB1.out hb2)
  have Rx_2 := Lib.hid (Rx_1.out.later hb2)
  clear hb2
  go_wp2_with fail
  refine (back_parse bq.out _ (HM.out _ HB2.out)).mono ?_
  rintro e w3 ⟨v3, rfl, hv3, hb3⟩
  have HB3 := Lib.hid (below_keep HB2.out hb3)
  have Rx_3 := Lib.hid (Rx_2.out.later hb3)
  have Ry_3 := Lib.hid hv3
  obtain ⟨g3, vn3, vd3, hs3, -⟩ := hv3
  subst hs3
  clear hb3
  go_wp2_with fail
  refine (equal_yes Rx_3.out Ry_3.out bq.out (by omega)).mono ?_
  rintro e w4 ⟨rfl, hb4⟩
  have HB4 := Lib.hid (below_keep HB3.out hb4)
  clear hb4
  obtain ⟨x0, x1, x2, x3⟩ := (HBX.out.later' HB4.out)
  go_wp2_with fail
  refine (print_as hS1.out hvx.out _ (HM.out _ HB4.out)).mono ?_
  rintro e w5 ⟨rfl, hb5⟩
  have HB5 := Lib.hid (below_keep HB4.out hb5)
  clear hb5
  obtain ⟨y0, y1, y2, y3⟩ := (HBY.out.later' HB5.out)
  clear x0 x1 x2 x3
  go_wp2_with fail
  refine (print_as hS2.out hvy.out _ (HM.out _ HB5.out)).mono ?_
  rintro e w6 ⟨rfl, hb6⟩
  have HB6 := Lib.hid (below_keep HB5.out hb6)
  clear hb6
  clear y0 y1 y2 y3
  obtain ⟨x0, x1, x2, x3⟩ := (HBX.out.later' HB6.out)
  go_wp2_with fail
  refine (check_good hvx.out _).mono ?_
  rintro e w7 ⟨rfl, hb7⟩
  have HB7 := Lib.hid (below_keep HB6.out hb7)
  clear hb7
  clear x0 x1 x2 x3
  obtain ⟨x0, x1, x2, x3⟩ := (HBX.out.later' HB7.out)
  obtain ⟨y0, y1, y2, y3⟩ := (HBY.out.later' HB7.out)
  go_wp2_with fail
  refine (read_as hS1.out hvx.out _ (HM.out _ HB7.out)).mono ?_
  rintro e w8 ⟨rfl, hb8⟩
  have HB8 := Lib.hid (below_keep HB7.out hb8)
  clear hb8
  clear x0 x1 x2 x3 y0 y1 y2 y3
  have HBA := Lib.hid (HB8.out.alloc HB8.out.size (.cells #[.int .i64 x.kind, .int .i64 x.num, .int .i64 x.den, .string ⟨x.str.toArray⟩] 45))
  obtain ⟨x0, x1, x2, x3⟩ := (HBX.out.later' HBA.out)
  have HB9 := HBA
  go_wp2_with fail
  refine (works_any _ (HM.out _ HB9.out)).mono ?_
  rintro e w10 ⟨rfl, hb10⟩
  have HB10 := Lib.hid (below_keep HB9.out hb10)
  clear hb10
  go_wp2
  go_ret
  exact ⟨rfl, below_keep HW0.out HB10.out⟩

set_option maxHeartbeats 16000000 in
set_option maxRecDepth 100000 in
theorem back_gd3 (q : Rat) (x y : Va) (a : Option Addr) (m p : Nat) (w : World) (hm : Ml w) (h1 : m ≤ 12) (bq : Bd 1000 q)
    (cX : ∀ w1, Below w.heap.size w w1 → Calls Tryz.prog 40 #[.slice a m p] w1 (RetR q w1)) (hvx : rightV x = true) (hvy : rightV y = true) (S1 : ByteArray) (hS1 : S1 = ⟨(printV x).toArray⟩) (S2 : ByteArray) (hS2 : S2 = ⟨(printV y).toArray⟩) (hs : (S1.toList == S2.toList) = false) (v0 : (x.kind == y.kind) = true) (v1 : (x.num == y.num) = true) (v2 : (x.den == y.den) = true) (v3 : ¬ x.str = y.str) :
    Calls Tryz.prog 12 #[.slice a m p, x.v, y.v] w (RetV (.bool true) w) := by
  obtain ⟨w0, hw0⟩ : ∃ w0, w0 = ((w.alloc (.cells #[.int .i64 x.kind, .int .i64 x.num, .int .i64 x.den, .string ⟨x.str.toArray⟩] 45)).alloc (.cells #[.int .i64 y.kind, .int .i64 y.num, .int .i64 y.den, .string ⟨y.str.toArray⟩] 45)) := ⟨_, rfl⟩
  have hb0 : Below w.heap.size w w0 := by rw [hw0]; exact (below_alloc _ _).alloc (by simp) _
  have HBX : Hid (VaAt w0 w.heap.size 0 x) := by
    show VaAt _ _ _ _
    rw [hw0]
    constructor <;> (rw [World.cell?_alloc_lt _ _ _ (by simp), World.cell?_alloc_at _ _ _ _ rfl]; rfl)
  have HBY : Hid (VaAt w0 (w.heap.size + 1) 0 y) := by
    show VaAt _ _ _ _
    rw [hw0]
    constructor <;> (rw [World.cell?_alloc_at _ _ _ _ (by simp)]; rfl)
  have HW0 := Lib.hid hb0
  have HB0 := Lib.hid (Below.refl w0.heap.size w0)
  have HM := Lib.hid (fun w1 (h : Below w0.heap.size w0 w1) => hm.later (below_keep hb0 h))
  have HX := Lib.hid (fun w1 (h : Below w0.heap.size w0 w1) => cX w1 (below_keep hb0 h))
  have bq := Lib.hid bq
  have hvx := Lib.hid hvx
  have hvy := Lib.hid hvy
  rename_i s1 s2
  clear s1 s2
  have hS1 := Lib.hid hS1
  rename_i s3
  clear s3
  have hS2 := Lib.hid hS2
  rename_i s4
  clear s4
  rename_i t1
  clear t1 hm cX hb0
  go_enter Tryz.func12, Tryz.ntmps12
  go_wp2_with fail
  rw [← hw0]
  clear hw0
  skip
  refine (HX.out _ HB0.out).mono ?_
  rintro e w1 ⟨v1, rfl, hv1, hb1⟩
  have HB1 := Lib.hid (below_keep HB0.out hb1)
  have Rx_1 := Lib.hid hv1
  obtain ⟨g1, vn1, vd1, hs1, -⟩ := hv1
  subst hs1
  clear hb1
  go_wp2_with fail
  refine (ratText_any Rx_1.out (bq.out.smR (by omega))).mono ?_
  rintro e w2 ⟨rfl, hb2⟩
  have HB2 := Lib.hid (below_keep HB1.out hb2)
  have Rx_2 := Lib.hid (Rx_1.out.later hb2)
  clear hb2
  go_wp2_with fail
  refine (back_parse bq.out _ (HM.out _ HB2.out)).mono ?_
  rintro e w3 ⟨v3, rfl, hv3, hb3⟩
  have HB3 := Lib.hid (below_keep HB2.out hb3)
  have Rx_3 := Lib.hid (Rx_2.out.later hb3)
  have Ry_3 := Lib.hid hv3
  obtain ⟨g3, vn3, vd3, hs3, -⟩ := hv3
  subst hs3
  clear hb3
  go_wp2_with fail
  refine (equal_yes Rx_3.out Ry_3.out bq.out (by omega)).mono ?_
  rintro e w4 ⟨rfl, hb4⟩
  have HB4 := Lib.hid (below_keep HB3.out hb4)
  clear hb4
  obtain ⟨x0, x1, x2, x3⟩ := (HBX.out.later' HB4.out)
  go_wp2_with fail
  refine (print_as hS1.out hvx.out _ (HM.out _ HB4.out)).mono ?_
  rintro e w5 ⟨rfl, hb5⟩
  have HB5 := Lib.hid (below_keep HB4.out hb5)
  clear hb5
  obtain ⟨y0, y1, y2, y3⟩ := (HBY.out.later' HB5.out)
  clear x0 x1 x2 x3
  go_wp2_with fail
  refine (print_as hS2.out hvy.out _ (HM.out _ HB5.out)).mono ?_
  rintro e w6 ⟨rfl, hb6⟩
  have HB6 := Lib.hid (below_keep HB5.out hb6)
  clear hb6
  clear y0 y1 y2 y3
  obtain ⟨x0, x1, x2, x3⟩ := (HBX.out.later' HB6.out)
  go_wp2_with fail
  refine (check_good hvx.out _).mono ?_
  rintro e w7 ⟨rfl, hb7⟩
  have HB7 := Lib.hid (below_keep HB6.out hb7)
  clear hb7
  clear x0 x1 x2 x3
  obtain ⟨x0, x1, x2, x3⟩ := (HBX.out.later' HB7.out)
  obtain ⟨y0, y1, y2, y3⟩ := (HBY.out.later' HB7.out)
  go_wp2_with fail
  refine (read_as hS1.out hvx.out _ (HM.out _ HB7.out)).mono ?_
  rintro e w8 ⟨rfl, hb8⟩
  have HB8 := Lib.hid (below_keep HB7.out hb8)
  clear hb8
  clear x0 x1 x2 x3 y0 y1 y2 y3
  have HBA := Lib.hid (HB8.out.alloc HB8.out.size (.cells #[.int .i64 x.kind, .int .i64 x.num, .int .i64 x.den, .string ⟨x.str.toArray⟩] 45))
  obtain ⟨x0, x1, x2, x3⟩ := (HBX.out.later' HBA.out)
  have HB9 := HBA
  go_wp2_with fail
  refine (works_any _ (HM.out _ HB9.out)).mono ?_
  rintro e w10 ⟨rfl, hb10⟩
  have HB10 := Lib.hid (below_keep HB9.out hb10)
  clear hb10
  go_wp2
  go_ret
  exact ⟨rfl, below_keep HW0.out HB10.out⟩

theorem va_ways {x y : Va} (h : x ≠ y) : (x.kind == y.kind) = false ∨ ((x.kind == y.kind) = true ∧ (x.num == y.num) = false) ∨ ((x.kind == y.kind) = true ∧ (x.num == y.num) = true ∧ (x.den == y.den) = false) ∨
    ((x.kind == y.kind) = true ∧ (x.num == y.num) = true ∧ (x.den == y.den) = true ∧ ¬ x.str = y.str) := by
  obtain ⟨k, n, d, s⟩ := x
  obtain ⟨k', n', d', s'⟩ := y
  by_cases h1 : k = k'
  · by_cases h2 : n = n'
    · by_cases h3 : d = d'
      · refine .inr (.inr (.inr ⟨by simpa using h1, by simpa using h2, by simpa using h3, ?_⟩))
        intro h4
        apply h
        simp only at h4
        subst h1 h2 h3 h4; rfl
      · exact .inr (.inr (.inl ⟨by simpa using h1, by simpa using h2, by simpa using h3⟩))
    · exact .inr (.inl ⟨by simpa using h1, by simpa using h2⟩)
  · exact .inl (by simpa using h1)

set_option maxHeartbeats 16000000 in
set_option maxRecDepth 100000 in
theorem back_gs (q : Rat) (x y : Va) (a : Option Addr) (m p : Nat) (w : World) (hm : Ml w) (h1 : m ≤ 12) (bq : Bd 1000 q)
    (cX : ∀ w1, Below w.heap.size w w1 → Calls Tryz.prog 40 #[.slice a m p] w1 (RetR q w1)) (hvx : rightV x = true) (hvy : rightV y = true) (hs : x = y) (S1 : ByteArray) (hS1 : S1 = ⟨(printV x).toArray⟩) :
    Calls Tryz.prog 12 #[.slice a m p, x.v, y.v] w (RetV (.bool true) w) := by
  obtain ⟨w0, hw0⟩ : ∃ w0, w0 = ((w.alloc (.cells #[.int .i64 x.kind, .int .i64 x.num, .int .i64 x.den, .string ⟨x.str.toArray⟩] 45)).alloc (.cells #[.int .i64 y.kind, .int .i64 y.num, .int .i64 y.den, .string ⟨y.str.toArray⟩] 45)) := ⟨_, rfl⟩
  have hb0 : Below w.heap.size w w0 := by rw [hw0]; exact (below_alloc _ _).alloc (by simp) _
  have HBX : Hid (VaAt w0 w.heap.size 0 x) := by
    show VaAt _ _ _ _
    rw [hw0]
    constructor <;> (rw [World.cell?_alloc_lt _ _ _ (by simp), World.cell?_alloc_at _ _ _ _ rfl]; rfl)
  have HBY : Hid (VaAt w0 (w.heap.size + 1) 0 y) := by
    show VaAt _ _ _ _
    rw [hw0]
    constructor <;> (rw [World.cell?_alloc_at _ _ _ _ (by simp)]; rfl)
  have HW0 := Lib.hid hb0
  have HB0 := Lib.hid (Below.refl w0.heap.size w0)
  have HM := Lib.hid (fun w1 (h : Below w0.heap.size w0 w1) => hm.later (below_keep hb0 h))
  have HX := Lib.hid (fun w1 (h : Below w0.heap.size w0 w1) => cX w1 (below_keep hb0 h))
  have bq := Lib.hid bq
  subst hs
  have hS2 := Lib.hid hS1
  have hvx := Lib.hid hvx
  have hvy := Lib.hid hvy
  rename_i s1 s2
  clear s1 s2
  have hS1 := Lib.hid hS1
  rename_i s3
  clear s3
  rename_i t1
  clear t1 hm cX hb0
  go_enter Tryz.func12, Tryz.ntmps12
  go_wp2_with fail
  rw [← hw0]
  clear hw0
  skip
  refine (HX.out _ HB0.out).mono ?_
  rintro e w1 ⟨v1, rfl, hv1, hb1⟩
  have HB1 := Lib.hid (below_keep HB0.out hb1)
  have Rx_1 := Lib.hid hv1
  obtain ⟨g1, vn1, vd1, hs1, -⟩ := hv1
  subst hs1
  clear hb1
  go_wp2_with fail
  refine (ratText_any Rx_1.out (bq.out.smR (by omega))).mono ?_
  rintro e w2 ⟨rfl, hb2⟩
  have HB2 := Lib.hid (below_keep HB1.out hb2)
  have Rx_2 := Lib.hid (Rx_1.out.later hb2)
  clear hb2
  go_wp2_with fail
  refine (back_parse bq.out _ (HM.out _ HB2.out)).mono ?_
  rintro e w3 ⟨v3, rfl, hv3, hb3⟩
  have HB3 := Lib.hid (below_keep HB2.out hb3)
  have Rx_3 := Lib.hid (Rx_2.out.later hb3)
  have Ry_3 := Lib.hid hv3
  obtain ⟨g3, vn3, vd3, hs3, -⟩ := hv3
  subst hs3
  clear hb3
  go_wp2_with fail
  refine (equal_yes Rx_3.out Ry_3.out bq.out (by omega)).mono ?_
  rintro e w4 ⟨rfl, hb4⟩
  have HB4 := Lib.hid (below_keep HB3.out hb4)
  clear hb4
  obtain ⟨x0, x1, x2, x3⟩ := (HBX.out.later' HB4.out)
  go_wp2_with fail
  refine (print_as hS1.out hvx.out _ (HM.out _ HB4.out)).mono ?_
  rintro e w5 ⟨rfl, hb5⟩
  have HB5 := Lib.hid (below_keep HB4.out hb5)
  clear hb5
  obtain ⟨y0, y1, y2, y3⟩ := (HBY.out.later' HB5.out)
  clear x0 x1 x2 x3
  go_wp2_with fail
  refine (print_as hS2.out hvy.out _ (HM.out _ HB5.out)).mono ?_
  rintro e w6 ⟨rfl, hb6⟩
  have HB6 := Lib.hid (below_keep HB5.out hb6)
  clear hb6
  clear y0 y1 y2 y3
  obtain ⟨x0, x1, x2, x3⟩ := (HBX.out.later' HB6.out)
  go_wp2_with fail
  refine (check_good hvx.out _).mono ?_
  rintro e w7 ⟨rfl, hb7⟩
  have HB7 := Lib.hid (below_keep HB6.out hb7)
  clear hb7
  clear x0 x1 x2 x3
  obtain ⟨x0, x1, x2, x3⟩ := (HBX.out.later' HB7.out)
  obtain ⟨y0, y1, y2, y3⟩ := (HBY.out.later' HB7.out)
  go_wp2_with fail
  refine (read_as hS1.out hvx.out _ (HM.out _ HB7.out)).mono ?_
  rintro e w8 ⟨rfl, hb8⟩
  have HB8 := Lib.hid (below_keep HB7.out hb8)
  clear hb8
  clear x0 x1 x2 x3 y0 y1 y2 y3
  have HBA := Lib.hid (HB8.out.alloc HB8.out.size (.cells #[.int .i64 x.kind, .int .i64 x.num, .int .i64 x.den, .string ⟨x.str.toArray⟩] 45))
  obtain ⟨x0, x1, x2, x3⟩ := (HBX.out.later' HBA.out)
  have HB9 := HBA
  go_wp2_with fail
  refine (works_any _ (HM.out _ HB9.out)).mono ?_
  rintro e w10 ⟨rfl, hb10⟩
  have HB10 := Lib.hid (below_keep HB9.out hb10)
  clear hb10
  go_wp2
  go_ret
  exact ⟨rfl, below_keep HW0.out HB10.out⟩

theorem back_any (a : Option Addr) (m p : Nat) (N D : Nat → Int) (x y : Va) (w : World) (hm : Ml w) (h1 : m ≤ p) (l1 : p ≤ maxLen) (pa : PairsAt w a m N D) (_ : VaW x) (_ : VaW y) :
    Calls Tryz.prog 12 #[.slice a m p, x.v, y.v] w (RetV (.bool true) w) := by
  unfold maxLen at l1
  by_cases hs : m ≤ 12
  · have bd : Bd 1000 (madeTo N D m) := (madeTo_bd (n := m) (fun i hi => let ⟨_, _, _, _, h7⟩ := pa i hi; h7) m (Nat.le_refl _)).mono (by omega)
    have cc : ∀ w1, Below w.heap.size w w1 → Calls Tryz.prog 40 #[.slice a m p] w1 (RetR (madeTo N D m) w1) :=
      fun w1 hb => made_any a m p N D w1 (by omega) h1 l1 (pa.later hb)
    cases hx : rightV x with
    | false =>
      cases hy : rightV y with
      | false => exact back_bb _ x y a m p w hm hs bd cc hx hy
      | true => exact back_bg _ x y a m p w hm hs bd cc hx hy _ rfl
    | true =>
      cases hy : rightV y with
      | false => exact back_gb _ x y a m p w hm hs bd cc hx hy _ rfl
      | true =>
        by_cases e : y = x
        · exact back_gs _ x y a m p w hm hs bd cc hx hy e.symm _ rfl
        · have hS := str_ne (S := ⟨(printV x).toArray⟩) (T := ⟨(printV y).toArray⟩) rfl rfl fun h => e (print_inj hx hy h).symm
          rcases va_ways (fun h => e h.symm : x ≠ y) with v0 | ⟨v0, v1⟩ | ⟨v0, v1, v2⟩ | ⟨v0, v1, v2, v3⟩
          · exact back_gd0 _ x y a m p w hm hs bd cc hx hy _ rfl _ rfl hS v0
          · exact back_gd1 _ x y a m p w hm hs bd cc hx hy _ rfl _ rfl hS v0 v1
          · exact back_gd2 _ x y a m p w hm hs bd cc hx hy _ rfl _ rfl hS v0 v1 v2
          · exact back_gd3 _ x y a m p w hm hs bd cc hx hy _ rfl _ rfl hS v0 v1 v2 v3
  · exact back_big a m p x y w hm (by omega)
end Go.Proofs.YtemhidlaaommaaaGreatDoor
