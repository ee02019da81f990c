/- ExactNil: the walk. -/
import Derived.Test.YtemhidlaaommaaaGreatDoorSumC
import Derived.Test.YtemhidlaaommaaaGreatDoorW1
namespace Go.Proofs.YtemhidlaaommaaaGreatDoor
open Go.RowKit

theorem PtS.made2 (x y : Value) (w : World) (t : TypeId) : PtS (w.alloc (.cells #[x, y] t)) (.slice (some ⟨w.heap.size, 0, none⟩) 2 2) 2 (fun j => if j = 0 then x else y) := by
  refine .inr ⟨w.heap.size, 0, 2, rfl, Nat.le_refl _, by decide, by simp, fun j hj => ?_⟩
  have : j = 0 ∨ j = 1 := by omega
  rcases this with rfl | rfl
  · rw [World.cell?_alloc_at _ _ _ _ rfl]; rfl
  · rw [World.cell?_alloc_at _ _ _ _ rfl]; rfl
theorem sum_bad2 {q : Rat} {x y : Value} {p1 p2 : Option Addr} {w : World} (t : TypeId) (h1 : IsR w x q) (h2 : IsB w y) (e1 : x = .pointer p1) (e2 : y = .pointer p2) (hb : Bd 64 q) :
    Calls Tryz.prog 53 #[.slice (some ⟨w.heap.size, 0, none⟩) 2 2] (w.alloc (.cells #[x, y] t)) (RetV (.pointer none) (w.alloc (.cells #[x, y] t))) :=
  sum_bad _ _ 64 _ q _ (by decide) (PtS.made2 x y w t) (fun j => by
    by_cases h : j = 0
    · exact ⟨p1, by simp [h, e1]⟩
    · exact ⟨p2, by simp [h, e2]⟩) (h1.later (below_alloc _ _)) (fun j hj => by
      show IsB _ (if j = 0 then x else y)
      rw [if_neg hj]; exact h2.later (below_alloc _ _)) hb
theorem rat_zero_bad (w : World) (t : TypeId) : IsB (w.alloc (.cells #[.bool false, .slice none 0 0, .slice none 0 0] t)) (.pointer (some ⟨w.heap.size, 0, none⟩)) := by
  refine .inr ⟨w.heap.size, rfl, ?_, ?_, ?_⟩ <;> (rw [World.cell?_alloc_at _ _ _ _ rfl]; rfl)

theorem nil_zero (n : Int) (w : World) (hm : Ml w) :
    Calls Tryz.prog 15 #[.int .i64 n, .int .i64 0] w (RetV (.bool true) w) := by
  have C := Lib.hid (works_any w hm)
  clear hm
  go_enter Tryz.func15, Tryz.ntmps15
  go_wp2_with fail
  refine (of_zero n _).mono ?_
  rintro e w' ⟨rfl, rfl⟩
  go_wp2_with fail
  refine C.out.mono ?_
  rintro e w1 ⟨rfl, hb⟩
  go_wp2
  go_ret
  exact ⟨rfl, hb⟩

set_option maxHeartbeats 16000000 in
set_option maxRecDepth 100000 in
theorem nil_some (n d : Int) (q : Rat) (w0 : World) (hm : Ml w0) (bq : Bd 64 q) (hd : ∀ w, Calls Tryz.prog 18 #[.int .i64 n, .int .i64 d] w (RetRE q w)) :
    Calls Tryz.prog 15 #[.int .i64 n, .int .i64 d] w0 (RetV (.bool true) w0) := by
  have HB0 := Lib.hid (Below.refl w0.heap.size w0)
  have HM := Lib.hid (fun w1 (h : Below w0.heap.size w0 w1) => hm.later h)
  have HO := Lib.hid hd
  have bq := Lib.hid bq
  rename_i t1
  clear t1 hm hd
  go_enter Tryz.func15, Tryz.ntmps15
  go_wp2_with fail
  refine (HO.out _).mono ?_
  rintro e w1 ⟨v1, rfl, hv1, hb1⟩
  have HB1 := Lib.hid (below_keep HB0.out hb1)
  have Ry_1 := Lib.hid hv1
  obtain ⟨g1, vn1, vd1, hs1, -⟩ := hv1
  subst hs1
  clear hb1
  go_wp2_with fail
  obtain ⟨w2, hw2⟩ : ∃ w2, w2 = ((w1.alloc (.cells #[.bool false, .slice none 0 0, .slice none 0 0] 80)).alloc (.cells #[.pointer none, .pointer (some ⟨w1.heap.size, 0, none⟩)] 22)) := ⟨_, rfl⟩
  have hb2 : Below w1.heap.size w1 w2 := by rw [hw2]; exact (below_alloc _ _).alloc (by simp) _
  have HB2 := Lib.hid (below_keep HB1.out hb2)
  have Ry_2 := Lib.hid (Ry_1.out.later hb2)
  have RX_2 : Hid (IsB w2 (.pointer (some ⟨w1.heap.size, 0, none⟩))) := by
    show IsB _ _
    rw [hw2]; exact (rat_zero_bad w1 _).later (below_alloc _ _)
  have HL0 : Hid (w2.cell? ⟨w1.heap.size + 1, 0, none⟩ = some (.pointer none)) := by
    show _ = _
    rw [hw2, World.cell?_alloc_at _ _ _ _ (by simp)]; rfl
  have HL1 : Hid (w2.cell? ⟨w1.heap.size + 1, 1, none⟩ = some (.pointer (some ⟨w1.heap.size, 0, none⟩))) := by
    show _ = _
    rw [hw2, World.cell?_alloc_at _ _ _ _ (by simp)]; rfl
  rw [← hw2]
  clear hw2 hb2
  have HLB2 := Lib.hid (Below.refl w2.heap.size w2)
  refine wp_loop_rounds 3 ?_
  rw [rounds_succ]
  have hl := (HLB2.out.cell (p := ⟨w1.heap.size + 1, 0, none⟩) (World.block_lt_of_cell? w2 ⟨w1.heap.size + 1, 0, none⟩ HL0.out)).trans HL0.out
  go_wp2_with fail
  refine (quo_bad_l (show IsB w2 (.pointer none) from .inl rfl) rfl).mono ?_
  rintro e w3 ⟨rfl, hb3⟩
  have HB3 := Lib.hid (below_keep HB2.out hb3)
  have HLB3 := Lib.hid (below_keep HLB2.out hb3)
  have Ry_3 := Lib.hid (Ry_2.out.later hb3)
  have RX_3 := Lib.hid (RX_2.out.later hb3)
  clear hb3 hl
  go_wp2_with fail
  refine (quo_bad_r Ry_3.out (show IsB w3 (.pointer none) from .inl rfl)).mono ?_
  rintro e w4 ⟨rfl, hb4⟩
  have HB4 := Lib.hid (below_keep HB3.out hb4)
  have HLB4 := Lib.hid (below_keep HLB3.out hb4)
  have Ry_4 := Lib.hid (Ry_3.out.later hb4)
  have RX_4 := Lib.hid (RX_3.out.later hb4)
  clear hb4
  go_wp2_with fail
  refine (bits_bad (show IsB w4 (.pointer none) from .inl rfl)).mono ?_
  rintro e w5 ⟨rfl, hb5⟩
  have HB5 := Lib.hid (below_keep HB4.out hb5)
  have HLB5 := Lib.hid (below_keep HLB4.out hb5)
  have Ry_5 := Lib.hid (Ry_4.out.later hb5)
  have RX_5 := Lib.hid (RX_4.out.later hb5)
  clear hb5
  go_wp2_with fail
  refine (text_bad (show IsB w5 (.pointer none) from .inl rfl)).mono ?_
  rintro e w6 ⟨rfl, hb6⟩
  have HB6 := Lib.hid (below_keep HB5.out hb6)
  have HLB6 := Lib.hid (below_keep HLB5.out hb6)
  have Ry_6 := Lib.hid (Ry_5.out.later hb6)
  have RX_6 := Lib.hid (RX_5.out.later hb6)
  clear hb6
  go_wp2_with fail
  refine (sign_bad (show IsB w6 (.pointer none) from .inl rfl)).mono ?_
  rintro e w7 ⟨rfl, hb7⟩
  have HB7 := Lib.hid (below_keep HB6.out hb7)
  have HLB7 := Lib.hid (below_keep HLB6.out hb7)
  have Ry_7 := Lib.hid (Ry_6.out.later hb7)
  have RX_7 := Lib.hid (RX_6.out.later hb7)
  clear hb7
  go_wp2_with fail
  refine (floor_bad (show IsB w7 (.pointer none) from .inl rfl)).mono ?_
  rintro e w8 ⟨rfl, hb8⟩
  have HB8 := Lib.hid (below_keep HB7.out hb8)
  have HLB8 := Lib.hid (below_keep HLB7.out hb8)
  have Ry_8 := Lib.hid (Ry_7.out.later hb8)
  have RX_8 := Lib.hid (RX_7.out.later hb8)
  clear hb8
  go_wp2_with fail
  refine (whole_bad (show IsB w8 (.pointer none) from .inl rfl)).mono ?_
  rintro e w9 ⟨rfl, hb9⟩
  have HB9 := Lib.hid (below_keep HB8.out hb9)
  have HLB9 := Lib.hid (below_keep HLB8.out hb9)
  have Ry_9 := Lib.hid (Ry_8.out.later hb9)
  have RX_9 := Lib.hid (RX_8.out.later hb9)
  clear hb9
  go_wp2_with fail
  refine (add_bad_l (show IsB w9 (.pointer none) from .inl rfl) rfl).mono ?_
  rintro e w10 ⟨rfl, hb10⟩
  have HB10 := Lib.hid (below_keep HB9.out hb10)
  have HLB10 := Lib.hid (below_keep HLB9.out hb10)
  have Ry_10 := Lib.hid (Ry_9.out.later hb10)
  have RX_10 := Lib.hid (RX_9.out.later hb10)
  clear hb10
  go_wp2_with fail
  refine (add_bad_r Ry_10.out (show IsB w10 (.pointer none) from .inl rfl)).mono ?_
  rintro e w11 ⟨rfl, hb11⟩
  have HB11 := Lib.hid (below_keep HB10.out hb11)
  have HLB11 := Lib.hid (below_keep HLB10.out hb11)
  have Ry_11 := Lib.hid (Ry_10.out.later hb11)
  have RX_11 := Lib.hid (RX_10.out.later hb11)
  clear hb11
  go_wp2_with fail
  refine (sub_bad_l (show IsB w11 (.pointer none) from .inl rfl) rfl).mono ?_
  rintro e w12 ⟨rfl, hb12⟩
  have HB12 := Lib.hid (below_keep HB11.out hb12)
  have HLB12 := Lib.hid (below_keep HLB11.out hb12)
  have Ry_12 := Lib.hid (Ry_11.out.later hb12)
  have RX_12 := Lib.hid (RX_11.out.later hb12)
  clear hb12
  go_wp2_with fail
  refine (mul_bad_r Ry_12.out (show IsB w12 (.pointer none) from .inl rfl)).mono ?_
  rintro e w13 ⟨rfl, hb13⟩
  have HB13 := Lib.hid (below_keep HB12.out hb13)
  have HLB13 := Lib.hid (below_keep HLB12.out hb13)
  have Ry_13 := Lib.hid (Ry_12.out.later hb13)
  have RX_13 := Lib.hid (RX_12.out.later hb13)
  clear hb13
  go_wp2_with fail
  refine (sum_bad2 _ Ry_13.out (show IsB w13 (.pointer none) from .inl rfl) rfl rfl bq.out).mono ?_
  rintro e w14 ⟨rfl, hb14'⟩
  have hb14 := below_al hb14'
  clear hb14'
  have HB14 := Lib.hid (below_keep HB13.out hb14)
  have HLB14 := Lib.hid (below_keep HLB13.out hb14)
  have Ry_14 := Lib.hid (Ry_13.out.later hb14)
  have RX_14 := Lib.hid (RX_13.out.later hb14)
  clear hb14
  go_wp2_with fail
  refine (cmp_bad (show IsB w14 (.pointer none) from .inl rfl) rfl).mono ?_
  rintro e w15 ⟨rfl, hb15⟩
  have HB15 := Lib.hid (below_keep HB14.out hb15)
  have HLB15 := Lib.hid (below_keep HLB14.out hb15)
  have Ry_15 := Lib.hid (Ry_14.out.later hb15)
  have RX_15 := Lib.hid (RX_14.out.later hb15)
  clear hb15
  go_wp2_with fail
  refine (value_bad (show IsB w15 (.pointer none) from .inl rfl)).mono ?_
  rintro e w16 ⟨rfl, hb16⟩
  have HB16 := Lib.hid (below_keep HB15.out hb16)
  have HLB16 := Lib.hid (below_keep HLB15.out hb16)
  have Ry_16 := Lib.hid (Ry_15.out.later hb16)
  have RX_16 := Lib.hid (RX_15.out.later hb16)
  clear hb16
  go_wp2
  rw [rounds_succ]
  have hl := (HLB16.out.cell (p := ⟨w1.heap.size + 1, 1, none⟩) (World.block_lt_of_cell? w2 ⟨w1.heap.size + 1, 1, none⟩ HL1.out)).trans HL1.out
  go_wp2_with fail
  refine (quo_bad_l RX_16.out rfl).mono ?_
  rintro e w17 ⟨rfl, hb17⟩
  have HB17 := Lib.hid (below_keep HB16.out hb17)
  have HLB17 := Lib.hid (below_keep HLB16.out hb17)
  have Ry_17 := Lib.hid (Ry_16.out.later hb17)
  have RX_17 := Lib.hid (RX_16.out.later hb17)
  clear hb17 hl
  go_wp2_with fail
  refine (quo_bad_r Ry_17.out RX_17.out).mono ?_
  rintro e w18 ⟨rfl, hb18⟩
  have HB18 := Lib.hid (below_keep HB17.out hb18)
  have HLB18 := Lib.hid (below_keep HLB17.out hb18)
  have Ry_18 := Lib.hid (Ry_17.out.later hb18)
  have RX_18 := Lib.hid (RX_17.out.later hb18)
  clear hb18
  go_wp2_with fail
  refine (bits_bad RX_18.out).mono ?_
  rintro e w19 ⟨rfl, hb19⟩
  have HB19 := Lib.hid (below_keep HB18.out hb19)
  have HLB19 := Lib.hid (below_keep HLB18.out hb19)
  have Ry_19 := Lib.hid (Ry_18.out.later hb19)
  have RX_19 := Lib.hid (RX_18.out.later hb19)
  clear hb19
  go_wp2_with fail
  refine (text_bad RX_19.out).mono ?_
  rintro e w20 ⟨rfl, hb20⟩
  have HB20 := Lib.hid (below_keep HB19.out hb20)
  have HLB20 := Lib.hid (below_keep HLB19.out hb20)
  have Ry_20 := Lib.hid (Ry_19.out.later hb20)
  have RX_20 := Lib.hid (RX_19.out.later hb20)
  clear hb20
  go_wp2_with fail
  refine (sign_bad RX_20.out).mono ?_
  rintro e w21 ⟨rfl, hb21⟩
  have HB21 := Lib.hid (below_keep HB20.out hb21)
  have HLB21 := Lib.hid (below_keep HLB20.out hb21)
  have Ry_21 := Lib.hid (Ry_20.out.later hb21)
  have RX_21 := Lib.hid (RX_20.out.later hb21)
  clear hb21
  go_wp2_with fail
  refine (floor_bad RX_21.out).mono ?_
  rintro e w22 ⟨rfl, hb22⟩
  have HB22 := Lib.hid (below_keep HB21.out hb22)
  have HLB22 := Lib.hid (below_keep HLB21.out hb22)
  have Ry_22 := Lib.hid (Ry_21.out.later hb22)
  have RX_22 := Lib.hid (RX_21.out.later hb22)
  clear hb22
  go_wp2_with fail
  refine (whole_bad RX_22.out).mono ?_
  rintro e w23 ⟨rfl, hb23⟩
  have HB23 := Lib.hid (below_keep HB22.out hb23)
  have HLB23 := Lib.hid (below_keep HLB22.out hb23)
  have Ry_23 := Lib.hid (Ry_22.out.later hb23)
  have RX_23 := Lib.hid (RX_22.out.later hb23)
  clear hb23
  go_wp2_with fail
  refine (add_bad_l RX_23.out rfl).mono ?_
  rintro e w24 ⟨rfl, hb24⟩
  have HB24 := Lib.hid (below_keep HB23.out hb24)
  have HLB24 := Lib.hid (below_keep HLB23.out hb24)
  have Ry_24 := Lib.hid (Ry_23.out.later hb24)
  have RX_24 := Lib.hid (RX_23.out.later hb24)
  clear hb24
  go_wp2_with fail
  refine (add_bad_r Ry_24.out RX_24.out).mono ?_
  rintro e w25 ⟨rfl, hb25⟩
  have HB25 := Lib.hid (below_keep HB24.out hb25)
  have HLB25 := Lib.hid (below_keep HLB24.out hb25)
  have Ry_25 := Lib.hid (Ry_24.out.later hb25)
  have RX_25 := Lib.hid (RX_24.out.later hb25)
  clear hb25
  go_wp2_with fail
  refine (sub_bad_l RX_25.out rfl).mono ?_
  rintro e w26 ⟨rfl, hb26⟩
  have HB26 := Lib.hid (below_keep HB25.out hb26)
  have HLB26 := Lib.hid (below_keep HLB25.out hb26)
  have Ry_26 := Lib.hid (Ry_25.out.later hb26)
  have RX_26 := Lib.hid (RX_25.out.later hb26)
  clear hb26
  go_wp2_with fail
  refine (mul_bad_r Ry_26.out RX_26.out).mono ?_
  rintro e w27 ⟨rfl, hb27⟩
  have HB27 := Lib.hid (below_keep HB26.out hb27)
  have HLB27 := Lib.hid (below_keep HLB26.out hb27)
  have Ry_27 := Lib.hid (Ry_26.out.later hb27)
  have RX_27 := Lib.hid (RX_26.out.later hb27)
  clear hb27
  go_wp2_with fail
  refine (sum_bad2 _ Ry_27.out RX_27.out rfl rfl bq.out).mono ?_
  rintro e w28 ⟨rfl, hb28'⟩
  have hb28 := below_al hb28'
  clear hb28'
  have HB28 := Lib.hid (below_keep HB27.out hb28)
  have HLB28 := Lib.hid (below_keep HLB27.out hb28)
  have Ry_28 := Lib.hid (Ry_27.out.later hb28)
  have RX_28 := Lib.hid (RX_27.out.later hb28)
  clear hb28
  go_wp2_with fail
  refine (cmp_bad RX_28.out rfl).mono ?_
  rintro e w29 ⟨rfl, hb29⟩
  have HB29 := Lib.hid (below_keep HB28.out hb29)
  have HLB29 := Lib.hid (below_keep HLB28.out hb29)
  have Ry_29 := Lib.hid (Ry_28.out.later hb29)
  have RX_29 := Lib.hid (RX_28.out.later hb29)
  clear hb29
  go_wp2_with fail
  refine (value_bad RX_29.out).mono ?_
  rintro e w30 ⟨rfl, hb30⟩
  have HB30 := Lib.hid (below_keep HB29.out hb30)
  have HLB30 := Lib.hid (below_keep HLB29.out hb30)
  have Ry_30 := Lib.hid (Ry_29.out.later hb30)
  have RX_30 := Lib.hid (RX_29.out.later hb30)
  clear hb30
  go_wp2
  rw [rounds_succ]
  go_wp2_with fail
  refine (works_any _ (HM.out _ HB30.out)).mono ?_
  rintro e w31 ⟨rfl, hb31⟩
  go_wp2
  go_ret
  exact ⟨rfl, below_keep HB30.out hb31⟩
theorem nil_any (n d : Int) (w : World) (hm : Ml w) (h1 : -9223372036854775808 ≤ n) (h2 : n ≤ 9223372036854775807) (h3 : -9223372036854775808 ≤ d) (h4 : d ≤ 9223372036854775807) :
    Calls Tryz.prog 15 #[.int .i64 n, .int .i64 d] w (RetV (.bool true) w) := by
  by_cases h0 : d = 0
  · subst h0; exact nil_zero n w hm
  · exact nil_some n d (quoQ n d) w hm (Bd.i64 h1 h2 h3 h4 h0) fun w1 => of_any n d w1 h1 h2 h3 h4 h0
end Go.Proofs.YtemhidlaaommaaaGreatDoor
