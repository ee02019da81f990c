/- Lemmas and contracts, each under its own condition: Contract: does. The first examples of the chapter: numbers. Contract: works. -/
import Derived.Test.YtemhidlaaommaaaGreatDoorD9
import Derived.Test.YtemhidlaaommaaaGreatDoorE1
/- Contract: does. -/
namespace Go.Proofs.YtemhidlaaommaaaGreatDoor
open Go.RowKit

theorem does_yes (op : Int) (x : Va) (c : Int) (l : List Va) (v : Value) (w : World) (hv : VaS w v l) (h : doE op l = (x, c)) :
    Calls Tryz.prog 70 #[.int .i64 op, x.v, .int .i64 c, v] w fun e w' => e = .returned (.bool true) ∧ Below w.heap.size w w' := by
  have C := Lib.hid (fun (w1 : World) (hb : Below w.heap.size w w1) => do_any op l v w1 (by
    rcases hv with h | h
    · exact .inl h
    · exact .inr (h.later hb)))
  rw [h] at C
  unfold doR at C
  have HB := Lib.hid (BoxAt.made x w 45)
  obtain ⟨a, cap, rfl, -⟩ := hv.shape
  clear hv h
  go_enter Tryz.func70, Tryz.ntmps70
  go_wp2_with fail
  refine (C.out _ (below_alloc _ _)).mono ?_
  rintro e w1 ⟨rfl, hb⟩
  obtain ⟨b0, b1, b2, b3⟩ := HB.out.later hb (by simp)
  have hlt : w.heap.size < w1.heap.size := by have := hb.size; simp at this; omega
  have hne : w.heap.size ≠ w1.heap.size := by omega
  have HBB := Lib.hid (below_al hb)
  clear C HB hb
  go_wp2

  go_ret
  exact ⟨rfl, HBB.out.alloc (Nat.le_of_lt hlt) _⟩
end Go.Proofs.YtemhidlaaommaaaGreatDoor
/- The first examples of the chapter: numbers. -/
namespace Go.Proofs.YtemhidlaaommaaaGreatDoor
open Go.RowKit

abbrev exX : Rat := quoQ 6 (-4)
abbrev exZ : Rat := quoQ 0 (-7)
theorem ex_text : ratS exX = [45, 51, 47, 50] ∧ ratS exZ = [48] ∧ ratS (flQ exX) = [45, 50] ∧ ratS (exX + exX) = [45, 51] := ⟨by kernel_rfl, by kernel_rfl, by kernel_rfl, by kernel_rfl⟩
theorem ex_bits : blen (qnum exX) = 2 ∧ blen exX.den = 2 ∧ blen (qnum exZ) = 0 ∧ blen exZ.den = 1 := ⟨by kernel_rfl, by kernel_rfl, by kernel_rfl, by kernel_rfl⟩
theorem ex_sign : sgnQ exX = -1 ∧ decide (exX.den = 1) = false ∧ decide (exZ.den = 1) = true := ⟨by kernel_rfl, by kernel_rfl, by kernel_rfl⟩
theorem ex_order : ordE (missV 9) ⟨1, 0, 0, []⟩ = -1 ∧ ordE ⟨2, 2, 1, []⟩ ⟨2, 1, 2, []⟩ = 1 ∧ ordE ⟨3, 0, 0, [97]⟩ ⟨3, 0, 0, [97, 98]⟩ = -1 := ⟨by kernel_rfl, by kernel_rfl, by kernel_rfl⟩
theorem ex_do1 : doE 9 [⟨2, 1099511627776, 1, []⟩, ⟨2, 1, 1, []⟩] = (missV 2, 0) ∧ doE 12 [⟨2, 1, 1, []⟩, ⟨2, 0, 1, []⟩] = (missV 3, 0) ∧ doE 19 [missV 7, ⟨1, 0, 0, []⟩] = (⟨1, 0, 0, []⟩, 0) ∧ doE 21 [missV 7, missV 9] = (missV 9, 0) :=
  ⟨by kernel_rfl, by kernel_rfl, by kernel_rfl, by kernel_rfl⟩
theorem ex_do2 : doE 22 [⟨1, 1, 0, []⟩, ⟨2, 1, 1, []⟩, missV 5] = (⟨2, 1, 1, []⟩, 0) ∧ doE 9 [missV 7, ⟨3, 0, 0, [97]⟩] = (zeroV, 12) ∧ doE 4 [] = (zeroV, 2) := ⟨by kernel_rfl, by kernel_rfl, by kernel_rfl⟩
theorem ex_type : typeE 9 [2, 3] = (3, 0) := by kernel_rfl
theorem ex_print : rightV ⟨3, 0, 0, [105, 116, 39, 115]⟩ = true ∧ printV ⟨3, 0, 0, [105, 116, 39, 115]⟩ = [39, 105, 116, 39, 39, 115, 39] := ⟨by kernel_rfl, by kernel_rfl⟩
theorem ex_read : rightV (readM [54, 47, 52]) = false := by kernel_rfl

theorem VaL.made2 (x y : Va) (w : World) (t : TypeId) : VaL (w.alloc (.cells #[.int .i64 x.kind, .int .i64 x.num, .int .i64 x.den, .string ⟨x.str.toArray⟩, .int .i64 y.kind, .int .i64 y.num, .int .i64 y.den, .string ⟨y.str.toArray⟩] t)) (.slice (some ⟨w.heap.size, 0, none⟩) 2 2) [x, y] := by
  refine ⟨w.heap.size, 0, 2, rfl, Nat.le_refl _, by decide, fun i v hv => ?_⟩
  have hi : i < 2 := (List.getElem?_eq_some_iff.1 hv).1
  have : i = 0 ∨ i = 1 := by omega
  rcases this with rfl | rfl
  · simp only [List.getElem?_cons_zero, Option.some.injEq] at hv
    subst hv
    constructor <;> (rw [World.cell?_alloc_at _ _ _ _ rfl]; rfl)
  · simp only [List.getElem?_cons_succ, List.getElem?_cons_zero, Option.some.injEq] at hv
    subst hv
    constructor <;> (rw [World.cell?_alloc_at _ _ _ _ rfl]; rfl)
theorem VaL.made3 (x y z : Va) (w : World) (t : TypeId) : VaL (w.alloc (.cells #[.int .i64 x.kind, .int .i64 x.num, .int .i64 x.den, .string ⟨x.str.toArray⟩, .int .i64 y.kind, .int .i64 y.num, .int .i64 y.den, .string ⟨y.str.toArray⟩, .int .i64 z.kind, .int .i64 z.num, .int .i64 z.den, .string ⟨z.str.toArray⟩] t)) (.slice (some ⟨w.heap.size, 0, none⟩) 3 3) [x, y, z] := by
  refine ⟨w.heap.size, 0, 3, rfl, Nat.le_refl _, by decide, fun i v hv => ?_⟩
  have hi : i < 3 := (List.getElem?_eq_some_iff.1 hv).1
  have : i = 0 ∨ i = 1 ∨ i = 2 := by omega
  rcases this with rfl | rfl | rfl
  · simp only [List.getElem?_cons_zero, Option.some.injEq] at hv
    subst hv
    constructor <;> (rw [World.cell?_alloc_at _ _ _ _ rfl]; rfl)
  · simp only [List.getElem?_cons_succ, List.getElem?_cons_zero, Option.some.injEq] at hv
    subst hv
    constructor <;> (rw [World.cell?_alloc_at _ _ _ _ rfl]; rfl)
  · simp only [List.getElem?_cons_succ, List.getElem?_cons_zero, Option.some.injEq] at hv
    subst hv
    constructor <;> (rw [World.cell?_alloc_at _ _ _ _ rfl]; rfl)
theorem InL.made2 (x y : Int) (w : World) (t : TypeId) : InL (w.alloc (.cells #[.int .i64 x, .int .i64 y] t)) (.slice (some ⟨w.heap.size, 0, none⟩) 2 2) [x, y] := by
  refine ⟨w.heap.size, 0, 2, rfl, Nat.le_refl _, by decide, fun i v hv => ?_⟩
  have hi : i < 2 := (List.getElem?_eq_some_iff.1 hv).1
  have : i = 0 ∨ i = 1 := by omega
  rcases this with rfl | rfl
  · simp only [List.getElem?_cons_zero, Option.some.injEq] at hv
    subst hv
    rw [World.cell?_alloc_at _ _ _ _ rfl]; rfl
  · simp only [List.getElem?_cons_succ, List.getElem?_cons_zero, Option.some.injEq] at hv
    subst hv
    rw [World.cell?_alloc_at _ _ _ _ rfl]; rfl
end Go.Proofs.YtemhidlaaommaaaGreatDoor
/- Contract: works. -/
namespace Go.Proofs.YtemhidlaaommaaaGreatDoor
open Go.RowKit

theorem exX_bd : Bd 64 exX := Bd.i64 (by decide) (by decide) (by decide) (by decide) (by decide)
theorem exZ_bd : Bd 64 exZ := Bd.i64 (by decide) (by decide) (by decide) (by decide) (by decide)
def RetS (l : List UInt8) (w : World) (e : Ending) (w' : World) : Prop := e = .returned (.string ⟨l.toArray⟩) ∧ Below w.heap.size w w'
theorem xText {v : Value} {w : World} (h : IsR w v exX) : Calls Tryz.prog 43 #[v] w (RetS [45, 51, 47, 50] w) := by
  rw [← ex_text.1]; exact ratText_any h (exX_bd.smR (by decide))
theorem zText {v : Value} {w : World} (h : IsR w v exZ) : Calls Tryz.prog 43 #[v] w (RetS [48] w) := by
  rw [← ex_text.2.1]; exact ratText_any h (exZ_bd.smR (by decide))
theorem fText {v : Value} {w : World} (h : IsR w v (flQ exX)) : Calls Tryz.prog 43 #[v] w (RetS [45, 50] w) := by
  rw [← ex_text.2.2.1]; exact ratText_any h (exX_bd.floor.smR (by decide))
theorem sText {v : Value} {w : World} (h : IsR w v (exX + exX)) : Calls Tryz.prog 43 #[v] w (RetS [45, 51] w) := by
  rw [← ex_text.2.2.2]; exact ratText_any h ((exX_bd.add exX_bd).smR (by decide))
theorem xBits {v : Value} {w : World} (h : IsR w v exX) : Calls Tryz.prog 55 #[v] w (RetV (.tuple #[.int .i64 2, .int .i64 2]) w) :=
  (bits_any h (exX_bd.smR (by decide))).mono fun e w' ⟨he, k, hw⟩ => ⟨by rw [he, ex_bits.1, ex_bits.2.1]; rfl, by rw [hw]; exact below_drewN' w k⟩
theorem zBits {v : Value} {w : World} (h : IsR w v exZ) : Calls Tryz.prog 55 #[v] w (RetV (.tuple #[.int .i64 0, .int .i64 1]) w) :=
  (bits_any h (exZ_bd.smR (by decide))).mono fun e w' ⟨he, k, hw⟩ => ⟨by rw [he, ex_bits.2.2.1, ex_bits.2.2.2]; rfl, by rw [hw]; exact below_drewN' w k⟩
theorem xSign {v : Value} {w : World} (h : IsR w v exX) : Calls Tryz.prog 42 #[v] w fun e w' => e = .returned (.int .i64 (-1)) ∧ w = w' := by
  have := sign_any h
  rwa [ex_sign.1] at this
theorem xWhole {v : Value} {w : World} (h : IsR w v exX) : Calls Tryz.prog 45 #[v] w fun e w' => e = .returned (.bool false) ∧ w = w' := by
  have := whole_any h
  rwa [ex_sign.2.1] at this
theorem zWhole {v : Value} {w : World} (h : IsR w v exZ) : Calls Tryz.prog 45 #[v] w fun e w' => e = .returned (.bool true) ∧ w = w' := by
  have := whole_any h
  rwa [ex_sign.2.2] at this
theorem order1 (w : World) : Calls Tryz.prog 62 #[(missV 9).v, Va.v ⟨1, 0, 0, []⟩] w (RetV (.int .i64 (-1)) w) := by
  have := Order_any (missV 9) ⟨1, 0, 0, []⟩ w
  rw [ex_order.1] at this; exact this
theorem order2 (w : World) : Calls Tryz.prog 62 #[Va.v ⟨2, 2, 1, []⟩, Va.v ⟨2, 1, 2, []⟩] w (RetV (.int .i64 1) w) := by
  have := Order_any ⟨2, 2, 1, []⟩ ⟨2, 1, 2, []⟩ w
  rw [ex_order.2.1] at this; exact this
theorem order3 (w : World) : Calls Tryz.prog 62 #[Va.v ⟨3, 0, 0, [97]⟩, Va.v ⟨3, 0, 0, [97, 98]⟩] w (RetV (.int .i64 (-1)) w) := by
  have := Order_any ⟨3, 0, 0, [97]⟩ ⟨3, 0, 0, [97, 98]⟩ w
  rw [ex_order.2.2] at this; exact this
theorem print1 (w : World) (hm : Ml w) : Calls Tryz.prog 50 #[Va.v ⟨3, 0, 0, [105, 116, 39, 115]⟩] w (RetV (.tuple #[.string ⟨#[39, 105, 116, 39, 39, 115, 39]⟩, .int .i64 0]) w) := by
  have := print_any ⟨3, 0, 0, [105, 116, 39, 115]⟩ w hm
  unfold printE at this
  rw [ex_print.1, ex_print.2] at this; exact this
theorem read1 (w : World) (hm : Ml w) : Calls Tryz.prog 34 #[.string ⟨#[54, 47, 52]⟩] w (RetV (.tuple #[.agg #[.int .i64 0, .int .i64 0, .int .i64 0, .string ⟨#[]⟩], .int .i64 7]) w) := by
  have := read_any ⟨#[54, 47, 52]⟩ w hm (by decide)
  unfold readE at this
  rw [show (ByteArray.mk #[54, 47, 52]).data.toList = [54, 47, 52] from rfl, ex_read] at this
  exact this
theorem type1 {v : Value} {w : World} (hv : InL w v [2, 3]) : Calls Tryz.prog 38 #[.int .i64 9, v] w (RetV (.tuple #[.int .i64 3, .int .i64 0]) w) := by
  have := type_any 9 [2, 3] v w (.inr hv)
  rw [ex_type] at this; exact this

set_option maxHeartbeats 16000000 in
set_option maxRecDepth 100000 in
theorem works_any (w0 : World) (hm : Ml w0) :
    Calls Tryz.prog 20 #[] w0 fun e w' => e = .returned (.bool true) ∧ Below w0.heap.size w0 w' := by
  have HB0 := Lib.hid (Below.refl w0.heap.size w0)
  have HM := Lib.hid (fun w1 (h : Below w0.heap.size w0 w1) => hm.later h)
  clear hm
  go_enter Tryz.func20, Tryz.ntmps20
  go_wp2_with fail
  refine (of_any 6 (-4) _ (by decide) (by decide) (by decide) (by decide) (by decide)).mono ?_
  rintro e w1 ⟨v1, rfl, hv1, hb1⟩
  have HB1 := Lib.hid (below_keep HB0.out hb1)
  clear hb1
  have HR1 := Lib.hid hv1
  obtain ⟨g1, vn1, vd1, hvs1, -⟩ := hv1
  subst hvs1
  go_wp2_with fail
  refine (of_any 0 (-7) _ (by decide) (by decide) (by decide) (by decide) (by decide)).mono ?_
  rintro e w2 ⟨v2, rfl, hv2, hb2⟩
  have HB2 := Lib.hid (below_keep HB1.out hb2)
  have HD1_2 := Lib.hid hb2
  clear hb2
  have HR2 := Lib.hid hv2
  obtain ⟨g2, vn2, vd2, hvs2, -⟩ := hv2
  subst hvs2
  go_wp2_with fail
  refine (of_zero 1 _).mono ?_
  rintro e w' ⟨rfl, rfl⟩
  go_wp2_with fail
  refine (xText (HR1.out.later HD1_2.out)).mono ?_
  rintro e w3 ⟨rfl, hb3⟩
  have HB3 := Lib.hid (below_keep HB2.out hb3)
  have HD1_3 := Lib.hid (below_keep HD1_2.out hb3)
  have HD2_3 := Lib.hid hb3
  clear hb3
  go_wp2_with fail
  refine (zText (HR2.out.later HD2_3.out)).mono ?_
  rintro e w4 ⟨rfl, hb4⟩
  have HB4 := Lib.hid (below_keep HB3.out hb4)
  have HD1_4 := Lib.hid (below_keep HD1_3.out hb4)
  have HD2_4 := Lib.hid (below_keep HD2_3.out hb4)
  clear hb4
  go_wp2_with fail
  refine (floor_any (HR1.out.later HD1_4.out) (exX_bd.smR (by decide))).mono ?_
  rintro e w5 ⟨v5, rfl, hv5, hb5⟩
  have HB5 := Lib.hid (below_keep HB4.out hb5)
  have HD1_5 := Lib.hid (below_keep HD1_4.out hb5)
  have HD2_5 := Lib.hid (below_keep HD2_4.out hb5)
  clear hb5
  have HR5 := Lib.hid hv5
  obtain ⟨g5, vn5, vd5, hvs5, -⟩ := hv5
  subst hvs5
  go_wp2_with fail
  refine (fText HR5.out).mono ?_
  rintro e w6 ⟨rfl, hb6⟩
  have HB6 := Lib.hid (below_keep HB5.out hb6)
  have HD1_6 := Lib.hid (below_keep HD1_5.out hb6)
  have HD2_6 := Lib.hid (below_keep HD2_5.out hb6)
  have HD5_6 := Lib.hid hb6
  clear hb6
  go_wp2_with fail
  refine (addR_any (HR1.out.later HD1_6.out) (HR1.out.later HD1_6.out) (exX_bd.smR (by decide)) (exX_bd.smR (by decide)) (exX_bd.smM exX_bd (by decide))).mono ?_
  rintro e w7 ⟨v7, rfl, hv7, hb7⟩
  have HB7 := Lib.hid (below_keep HB6.out hb7)
  have HD1_7 := Lib.hid (below_keep HD1_6.out hb7)
  have HD2_7 := Lib.hid (below_keep HD2_6.out hb7)
  have HD5_7 := Lib.hid (below_keep HD5_6.out hb7)
  clear hb7
  have HR7 := Lib.hid hv7
  obtain ⟨g7, vn7, vd7, hvs7, -⟩ := hv7
  subst hvs7
  go_wp2_with fail
  refine (sText HR7.out).mono ?_
  rintro e w8 ⟨rfl, hb8⟩
  have HB8 := Lib.hid (below_keep HB7.out hb8)
  have HD1_8 := Lib.hid (below_keep HD1_7.out hb8)
  have HD2_8 := Lib.hid (below_keep HD2_7.out hb8)
  have HD5_8 := Lib.hid (below_keep HD5_7.out hb8)
  have HD7_8 := Lib.hid hb8
  clear hb8
  go_wp2_with fail
  refine (xBits (HR1.out.later HD1_8.out)).mono ?_
  rintro e w9 ⟨rfl, hb9⟩
  have HB9 := Lib.hid (below_keep HB8.out hb9)
  have HD1_9 := Lib.hid (below_keep HD1_8.out hb9)
  have HD2_9 := Lib.hid (below_keep HD2_8.out hb9)
  clear hb9
  go_wp2_with fail
  refine (zBits (HR2.out.later HD2_9.out)).mono ?_
  rintro e w10 ⟨rfl, hb10⟩
  have HB10 := Lib.hid (below_keep HB9.out hb10)
  have HD1_10 := Lib.hid (below_keep HD1_9.out hb10)
  have HD2_10 := Lib.hid (below_keep HD2_9.out hb10)
  clear hb10
  go_wp2_with fail
  refine (xSign (HR1.out.later HD1_10.out)).mono ?_
  rintro e w' ⟨rfl, rfl⟩
  go_wp2_with fail
  refine (xWhole (HR1.out.later HD1_10.out)).mono ?_
  rintro e w' ⟨rfl, rfl⟩
  go_wp2_with fail
  refine (zWhole (HR2.out.later HD2_10.out)).mono ?_
  rintro e w' ⟨rfl, rfl⟩
  go_wp2_with fail
  refine (none_any 9 _).mono ?_
  rintro e w11 ⟨rfl, hb11⟩
  have HB11 := Lib.hid (below_keep HB10.out hb11)
  clear hb11
  go_wp2_with fail
  refine (truthL_any 0 _).mono ?_
  rintro e w12 ⟨rfl, hb12⟩
  have HB12 := Lib.hid (below_keep HB11.out hb12)
  clear hb12
  go_wp2_with fail
  refine (order1 _).mono ?_
  rintro e w13 ⟨rfl, hb13⟩
  have HB13 := Lib.hid (below_keep HB12.out hb13)
  clear hb13
  go_wp2_with fail
  refine (num_any 2 1 _).mono ?_
  rintro e w14 ⟨rfl, hb14⟩
  have HB14 := Lib.hid (below_keep HB13.out hb14)
  clear hb14
  go_wp2_with fail
  refine (num_any 1 2 _).mono ?_
  rintro e w15 ⟨rfl, hb15⟩
  have HB15 := Lib.hid (below_keep HB14.out hb15)
  clear hb15
  go_wp2_with fail
  refine (order2 _).mono ?_
  rintro e w16 ⟨rfl, hb16⟩
  have HB16 := Lib.hid (below_keep HB15.out hb16)
  clear hb16
  go_wp2_with fail
  refine (text_of ⟨#[97]⟩ _).mono ?_
  rintro e w17 ⟨rfl, hb17⟩
  have HB17 := Lib.hid (below_keep HB16.out hb17)
  clear hb17
  go_wp2_with fail
  refine (text_of ⟨#[97, 98]⟩ _).mono ?_
  rintro e w18 ⟨rfl, hb18⟩
  have HB18 := Lib.hid (below_keep HB17.out hb18)
  clear hb18
  go_wp2_with fail
  refine (order3 _).mono ?_
  rintro e w19 ⟨rfl, hb19⟩
  have HB19 := Lib.hid (below_keep HB18.out hb19)
  clear hb19
  go_wp2_with fail
  refine (none_any 2 _).mono ?_
  rintro e w20 ⟨rfl, hb20⟩
  have HB20 := Lib.hid (below_keep HB19.out hb20)
  clear hb20
  go_wp2_with fail
  refine (num_any 1099511627776 1 _).mono ?_
  rintro e w21 ⟨rfl, hb21⟩
  have HB21 := Lib.hid (below_keep HB20.out hb21)
  clear hb21
  go_wp2_with fail
  refine (num_any 1 1 _).mono ?_
  rintro e w22 ⟨rfl, hb22⟩
  have HB22 := Lib.hid (below_keep HB21.out hb22)
  clear hb22
  go_wp2_with fail
  refine (does_yes 9 (missV 2) 0 _ _ _ (.inr (VaL.made2 ⟨2, 1099511627776, 1, []⟩ ⟨2, 1, 1, []⟩ _ _)) ex_do1.1).mono ?_
  rintro e w23 ⟨rfl, hb23⟩
  have HB23 := Lib.hid (below_keep HB22.out (below_al hb23))
  clear hb23
  go_wp2_with fail
  refine (none_any 3 _).mono ?_
  rintro e w24 ⟨rfl, hb24⟩
  have HB24 := Lib.hid (below_keep HB23.out hb24)
  clear hb24
  go_wp2_with fail
  refine (num_any 1 1 _).mono ?_
  rintro e w25 ⟨rfl, hb25⟩
  have HB25 := Lib.hid (below_keep HB24.out hb25)
  clear hb25
  go_wp2_with fail
  refine (num_any 0 1 _).mono ?_
  rintro e w26 ⟨rfl, hb26⟩
  have HB26 := Lib.hid (below_keep HB25.out hb26)
  clear hb26
  go_wp2_with fail
  refine (does_yes 12 (missV 3) 0 _ _ _ (.inr (VaL.made2 ⟨2, 1, 1, []⟩ ⟨2, 0, 1, []⟩ _ _)) ex_do1.2.1).mono ?_
  rintro e w27 ⟨rfl, hb27⟩
  have HB27 := Lib.hid (below_keep HB26.out (below_al hb27))
  clear hb27
  go_wp2_with fail
  refine (truthL_any 0 _).mono ?_
  rintro e w28 ⟨rfl, hb28⟩
  have HB28 := Lib.hid (below_keep HB27.out hb28)
  clear hb28
  go_wp2_with fail
  refine (none_any 7 _).mono ?_
  rintro e w29 ⟨rfl, hb29⟩
  have HB29 := Lib.hid (below_keep HB28.out hb29)
  clear hb29
  go_wp2_with fail
  refine (truthL_any 0 _).mono ?_
  rintro e w30 ⟨rfl, hb30⟩
  have HB30 := Lib.hid (below_keep HB29.out hb30)
  clear hb30
  go_wp2_with fail
  refine (does_yes 19 ⟨1, 0, 0, []⟩ 0 _ _ _ (.inr (VaL.made2 (missV 7) ⟨1, 0, 0, []⟩ _ _)) ex_do1.2.2.1).mono ?_
  rintro e w31 ⟨rfl, hb31⟩
  have HB31 := Lib.hid (below_keep HB30.out (below_al hb31))
  clear hb31
  go_wp2_with fail
  refine (none_any 9 _).mono ?_
  rintro e w32 ⟨rfl, hb32⟩
  have HB32 := Lib.hid (below_keep HB31.out hb32)
  clear hb32
  go_wp2_with fail
  refine (none_any 7 _).mono ?_
  rintro e w33 ⟨rfl, hb33⟩
  have HB33 := Lib.hid (below_keep HB32.out hb33)
  clear hb33
  go_wp2_with fail
  refine (none_any 9 _).mono ?_
  rintro e w34 ⟨rfl, hb34⟩
  have HB34 := Lib.hid (below_keep HB33.out hb34)
  clear hb34
  go_wp2_with fail
  refine (does_yes 21 (missV 9) 0 _ _ _ (.inr (VaL.made2 (missV 7) (missV 9) _ _)) ex_do1.2.2.2).mono ?_
  rintro e w35 ⟨rfl, hb35⟩
  have HB35 := Lib.hid (below_keep HB34.out (below_al hb35))
  clear hb35
  go_wp2_with fail
  refine (num_any 1 1 _).mono ?_
  rintro e w36 ⟨rfl, hb36⟩
  have HB36 := Lib.hid (below_keep HB35.out hb36)
  clear hb36
  go_wp2_with fail
  refine (truthL_any 1 _).mono ?_
  rintro e w37 ⟨rfl, hb37⟩
  have HB37 := Lib.hid (below_keep HB36.out hb37)
  clear hb37
  go_wp2_with fail
  refine (num_any 1 1 _).mono ?_
  rintro e w38 ⟨rfl, hb38⟩
  have HB38 := Lib.hid (below_keep HB37.out hb38)
  clear hb38
  go_wp2_with fail
  refine (none_any 5 _).mono ?_
  rintro e w39 ⟨rfl, hb39⟩
  have HB39 := Lib.hid (below_keep HB38.out hb39)
  clear hb39
  go_wp2_with fail
  refine (does_yes 22 ⟨2, 1, 1, []⟩ 0 _ _ _ (.inr (VaL.made3 ⟨1, 1, 0, []⟩ ⟨2, 1, 1, []⟩ (missV 5) _ _)) ex_do2.1).mono ?_
  rintro e w40 ⟨rfl, hb40⟩
  have HB40 := Lib.hid (below_keep HB39.out (below_al hb40))
  clear hb40
  go_wp2_with fail
  refine (none_any 7 _).mono ?_
  rintro e w41 ⟨rfl, hb41⟩
  have HB41 := Lib.hid (below_keep HB40.out hb41)
  clear hb41
  go_wp2_with fail
  refine (text_of ⟨#[97]⟩ _).mono ?_
  rintro e w42 ⟨rfl, hb42⟩
  have HB42 := Lib.hid (below_keep HB41.out hb42)
  clear hb42
  go_wp2_with fail
  refine (does_yes 9 zeroV 12 _ _ _ (.inr (VaL.made2 (missV 7) ⟨3, 0, 0, [97]⟩ _ _)) ex_do2.2.1).mono ?_
  rintro e w43 ⟨rfl, hb43⟩
  have HB43 := Lib.hid (below_keep HB42.out (below_al hb43))
  clear hb43
  go_wp2_with fail
  refine (does_yes 4 zeroV 2 [] _ _ (.inl ⟨_, _, rfl, rfl⟩) ex_do2.2.2).mono ?_
  rintro e w44 ⟨rfl, hb44⟩
  have HB44 := Lib.hid (below_keep HB43.out hb44)
  clear hb44
  go_wp2_with fail
  refine (type1 (InL.made2 2 3 _ _)).mono ?_
  rintro e w45 ⟨rfl, hb45⟩
  have HB45 := Lib.hid (below_keep HB44.out (below_al hb45))
  clear hb45
  go_wp2_with fail
  refine (text_of ⟨#[105, 116, 39, 115]⟩ _).mono ?_
  rintro e w46 ⟨rfl, hb46⟩
  have HB46 := Lib.hid (below_keep HB45.out hb46)
  clear hb46
  go_wp2_with fail
  refine (print1 _ (HM.out _ HB46.out)).mono ?_
  rintro e w47 ⟨rfl, hb47⟩
  have HB47 := Lib.hid (below_keep HB46.out hb47)
  clear hb47
  go_wp2_with fail
  refine (read1 _ (HM.out _ HB47.out)).mono ?_
  rintro e w48 ⟨rfl, hb48⟩
  have HB48 := Lib.hid (below_keep HB47.out hb48)
  clear hb48
  go_wp2
  go_ret
  exact ⟨rfl, HB48.out.alloc HB48.out.size _⟩
end Go.Proofs.YtemhidlaaommaaaGreatDoor
