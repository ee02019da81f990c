/- Lemmas and contracts, each under its own condition: Contracts: Fits, order, Order. Contract: Print. -/
import Derived.Test.YtebpfbgaafchjaaGreatDoorV1
import Derived.Test.YtebpfbgaafchjaaGreatDoorV2
/- Contracts: Fits, order, Order. -/
namespace Go.Proofs.YtebpfbgaafchjaaGreatDoor
open Go.RowKit

theorem FitQ.bd {q : Rat} (h : FitQ q) : Bd 41 q := ⟨Nat.lt_of_le_of_lt h.num (by decide), Nat.lt_of_le_of_lt h.den (by decide)⟩

theorem fits_bad (x : Va) (t : Int) (w : World) (h : rightV x = false ∨ t < 1 ∨ 4 < t) :
  Calls Tryz.prog 138 #[x.v, .int .i64 t] w fun e w' => e = .returned (.bool false) ∧ Below w.heap.size w w' := by
 have C := Lib.hid (fun w1 => right_any x w1)
 have h' : rightV x = false ∨ (rightV x = true ∧ decide (t < 1) = true) ∨ (rightV x = true ∧ decide (t < 1) = false ∧ decide (4 < t) = true) := by
  cases hr : rightV x with
  | false => exact .inl rfl
  | true =>
   by_cases h1 : t < 1
   ·exact .inr (.inl ⟨rfl, by simpa using h1⟩)
   ·refine .inr (.inr ⟨rfl, by simpa using h1, ?_⟩)
    rcases h with h | h | h
    ·rw [hr] at h; cases h
    ·exact absurd h h1
    ·simpa using h
 clear h
 rcases h' with hr | ⟨hr, h1⟩ | ⟨hr, h1, h2⟩
 all_goals
  rw [hr] at C
  clear hr
  go_enter Tryz.func138, Tryz.ntmps138
  go_wp2_with fail
  refine (C.out _).mono ?_
  rintro e w1 ⟨rfl, hb⟩
  obtain ⟨⟨c1, c2, c3, c4⟩, HB⟩ := BoxAt.past x hb
  clear C hb
  go_wp2
  go_ret
  exact ⟨rfl, HB⟩

theorem fits_good (x : Va) (t : Int) (w : World) (h : rightV x = true) (h1 : 1 ≤ t) (h2 : t ≤ 4) :
  Calls Tryz.prog 138 #[x.v, .int .i64 t] w fun e w' => e = .returned (.bool (fitsV x t)) ∧ Below w.heap.size w w' := by
 have C := Lib.hid (fun w1 => right_any x w1)
 have hf : fitsV x t = (if x.kind = 1 then decide (t = 1) else if x.kind = 2 then decide (t = 3 ∨ (t = 2 ∧ x.den = 1)) else if x.kind = 3 then decide (t = 4) else true) := by
  unfold fitsV
  have : decide (1 ≤ t ∧ t ≤ 4) = true := by simp [h1, h2]
  rw [h, this]; rfl
 rw [hf]
 have e1 : decide (t < 1) = false := by rw [decide_eq_false_iff_not]; omega
 have e2 : decide (4 < t) = false := by rw [decide_eq_false_iff_not]; omega
 have hk : x.kind = 0 ∨ x.kind = 1 ∨ x.kind = 2 ∨ x.kind = 3 := by
  rcases right_cases h with ⟨r, h1, h2, rfl⟩ | ⟨b, rfl⟩ | ⟨q, hq, rfl⟩ | ⟨s, h1, h2, rfl⟩
  ·exact .inl rfl
  ·exact .inr (.inl rfl)
  ·exact .inr (.inr (.inl rfl))
  ·exact .inr (.inr (.inr rfl))
 rw [h] at C
 obtain ⟨k, n, d, s⟩ := x
 simp only at hk ⊢
 have HT : Hid (1 ≤ t ∧ t ≤ 4) := ⟨h1, h2⟩
 clear h hf h1 h2
 rcases hk with rfl | rfl | rfl | rfl
 ·go_enter Tryz.func138, Tryz.ntmps138
  go_wp2_with fail
  refine (C.out _).mono ?_
  rintro e w1 ⟨rfl, hb⟩
  obtain ⟨⟨c1, c2, c3, c4⟩, HB⟩ := BoxAt.past ⟨_, n, d, s⟩ hb
  clear C hb
  go_wp2
  all_goals
   go_ret
   exact ⟨ret_bool (by simp), HB⟩
 ·go_enter Tryz.func138, Tryz.ntmps138
  go_wp2_with fail
  refine (C.out _).mono ?_
  rintro e w1 ⟨rfl, hb⟩
  obtain ⟨⟨c1, c2, c3, c4⟩, HB⟩ := BoxAt.past ⟨_, n, d, s⟩ hb
  clear C hb
  go_wp2
  all_goals
   go_ret
   exact ⟨ret_bool (by rw [Bool.eq_iff_iff]; simp), HB⟩
 ·go_enter Tryz.func138, Tryz.ntmps138
  go_wp2_with fail
  refine (C.out _).mono ?_
  rintro e w1 ⟨rfl, hb⟩
  obtain ⟨⟨c1, c2, c3, c4⟩, HB⟩ := BoxAt.past ⟨_, n, d, s⟩ hb
  clear C hb
  go_wp2
  all_goals
   go_ret
   refine ⟨ret_bool ?_, HB⟩
   first
    | rfl
    | (rw [Bool.eq_iff_iff]; simp; done)
    | (simp_all; done)
 ·go_enter Tryz.func138, Tryz.ntmps138
  go_wp2_with fail
  refine (C.out _).mono ?_
  rintro e w1 ⟨rfl, hb⟩
  obtain ⟨⟨c1, c2, c3, c4⟩, HB⟩ := BoxAt.past ⟨_, n, d, s⟩ hb
  clear C hb
  go_wp2
  all_goals
   go_ret
   exact ⟨ret_bool (by rw [Bool.eq_iff_iff]; simp), HB⟩

theorem fits_any (x : Va) (t : Int) (w : World) :
  Calls Tryz.prog 138 #[x.v, .int .i64 t] w fun e w' => e = .returned (.bool (fitsV x t)) ∧ Below w.heap.size w w' := by
 by_cases h : rightV x = true ∧ 1 ≤ t ∧ t ≤ 4
 ·exact fits_good x t w h.1 h.2.1 h.2.2
 ·have hf : fitsV x t = false := by
   unfold fitsV
   by_cases h1 : rightV x = true
   ·have : decide (1 ≤ t ∧ t ≤ 4) = false := by rw [decide_eq_false_iff_not]; exact fun h2 => h ⟨h1, h2⟩
    rw [this]; simp
   ·have : rightV x = false := by simpa using h1
    rw [this]; rfl
  rw [hf]
  refine fits_bad x t w ?_
  by_cases h1 : rightV x = true
  ·right
   by_cases h2 : t < 1
   ·exact .inl h2
   ·right
    refine Int.not_le.1 fun h3 => h ⟨h1, by omega, h3⟩
  ·left; simpa using h1

end Go.Proofs.YtebpfbgaafchjaaGreatDoor
/- Contract: Print. -/
namespace Go.Proofs.YtebpfbgaafchjaaGreatDoor
open Go.RowKit

theorem ret_str {l m : ByteArray} {k : Int} (h : l.data.toList = m.data.toList) : Ending.returned (.tuple #[.string l, .int .i64 k]) = .returned (.tuple #[.string m, .int .i64 k]) := by rw [bytes_eq h]

theorem print_bad (x : Va) (h : rightV x = false) (w : World) :
  Calls Tryz.prog 103 #[x.v] w fun e w' => e = .returned (.tuple #[str [], .int .i64 2]) ∧ Below w.heap.size w w' := by
 have C := Lib.hid (fun w1 => right_any x w1)
 rw [h] at C
 clear h
 go_enter Tryz.func103, Tryz.ntmps103
 go_wp2_with fail
 refine (C.out _).mono ?_
 rintro e w1 ⟨rfl, hb⟩
 obtain ⟨⟨c1, c2, c3, c4⟩, HB⟩ := BoxAt.past x hb
 clear C hb
 go_wp2
 go_ret2
 exact ⟨rfl, HB⟩

theorem print_0 (r : Int) (h1 : 1 ≤ r) (h2 : r ≤ 255) (w : World) :
  Calls Tryz.prog 103 #[(missV r).v] w fun e w' => e = .returned (.tuple #[str (63 :: dec r.natAbs), .int .i64 0]) ∧ Below w.heap.size w w' := by
 have C := Lib.hid (fun w1 => right_any (missV r) w1)
 rw [right_miss h1 h2] at C
 have C2 := Lib.hid (fun w1 => size_any r w1 (by omega) (by omega))
 have SM : Sm r.natAbs := Sm.i64 (n := r) (by omega) (by omega)
 have C3 := Lib.hid (fun (w1 : World) (v : Value) (hv : IsN B32 w1 v r.natAbs) => text_any hv SM)
 have L1 := SM.dec_len
 clear h1 h2 SM
 go_enter Tryz.func103, Tryz.ntmps103
 go_wp2_with fail
 refine (C.out _).mono ?_
 rintro e w1 ⟨rfl, hb⟩
 obtain ⟨⟨c1, c2, c3, c4⟩, HB⟩ := BoxAt.past (missV r) hb
 clear C hb
 go_wp2_with fail
 refine (C2.out _).mono ?_
 rintro e w2 ⟨v, rfl, hv, hb2⟩
 have HB2 := below_keep HB hb2
 obtain ⟨a1, n1, p1, hs1, -⟩ := hv.shape (by decide)
 subst hs1
 have C4 := Lib.hid (C3.out _ _ hv)
 clear C2 C3 hv
 go_wp2_with fail
 refine C4.out.mono ?_
 rintro e w3 ⟨rfl, hb3⟩
 have HB3 := below_keep HB2 hb3
 clear C4
 go_wp2
 go_ret2
 exact ⟨ret_str (by simp), HB3⟩

theorem print_1 (b : Bool) (w : World) :
  Calls Tryz.prog 103 #[(truthV b).v] w fun e w' => e = .returned (.tuple #[str (printV (truthV b)), .int .i64 0]) ∧ Below w.heap.size w w' := by
 have C := Lib.hid (fun w1 => right_any (truthV b) w1)
 rw [right_bool] at C
 cases b
 ·go_enter Tryz.func103, Tryz.ntmps103
  go_wp2_with fail
  refine (C.out _).mono ?_
  rintro e w1 ⟨rfl, hb⟩
  obtain ⟨⟨c1, c2, c3, c4⟩, HB⟩ := BoxAt.past ⟨1, 0, 0, []⟩ hb
  clear C hb
  go_wp2
  go_ret2
  exact ⟨rfl, HB⟩
 ·go_enter Tryz.func103, Tryz.ntmps103
  go_wp2_with fail
  refine (C.out _).mono ?_
  rintro e w1 ⟨rfl, hb⟩
  obtain ⟨⟨c1, c2, c3, c4⟩, HB⟩ := BoxAt.past ⟨1, 1, 0, []⟩ hb
  clear C hb
  go_wp2
  go_ret2
  exact ⟨rfl, HB⟩

theorem print_2 (q : Rat) (hq : FitQ q) (w : World) :
  Calls Tryz.prog 103 #[(ratV q).v] w fun e w' => e = .returned (.tuple #[str (ratS q), .int .i64 0]) ∧ Below w.heap.size w w' := by
 have C := Lib.hid (fun w1 => right_any (ratV q) w1)
 rw [right_rat hq] at C
 have C2 := Lib.hid (fun w1 => number_any q hq w1)
 have C3 := Lib.hid (fun (w1 : World) (v : Value) (hv : IsR w1 v q) => ratText_any hv (hq.bd.smR (by decide)))
 clear hq
 go_enter Tryz.func103, Tryz.ntmps103
 go_wp2_with fail
 refine (C.out _).mono ?_
 rintro e w1 ⟨rfl, hb⟩
 obtain ⟨⟨c1, c2, c3, c4⟩, HB⟩ := BoxAt.past (ratV q) hb
 clear C hb
 go_wp2_with fail
 refine (C2.out _).mono ?_
 rintro e w2 ⟨v, rfl, hv, hb2⟩
 have HB2 := below_keep HB hb2
 have C4 := Lib.hid (C3.out _ _ hv)
 obtain ⟨g, vn, vd, hvs, -⟩ := hv
 subst hvs
 clear C2 C3
 go_wp2_with fail
 refine C4.out.mono ?_
 rintro e w3 ⟨rfl, hb3⟩
 have HB3 := below_keep HB2 hb3
 clear C4
 go_wp2
 go_ret2
 exact ⟨rfl, HB3⟩

theorem print_3 (s : List UInt8) (h1 : s.length ≤ 16) (h2 : s.all okB = true) (w : World) (hm : Ml w) :
  Calls Tryz.prog 103 #[(textV s).v] w fun e w' => e = .returned (.tuple #[str (39 :: dbl s ++ [39]), .int .i64 0]) ∧ Below w.heap.size w w' := by
 have C := Lib.hid (fun w1 => right_any (textV s) w1)
 rw [right_text h1 h2] at C
 have C2 := Lib.hid (fun (w1 : World) (m : Int) (hm : w1.cell? ⟨1, 0, none⟩ = some (.int .i64 m)) => Tryz.strings_ReplaceAll ⟨s.toArray⟩ ⟨#[39]⟩ ⟨#[39, 39]⟩ m w1 (by simp [ByteArray.size]; omega) hm (by decide) (by
  have := Lib.countB_le ⟨#[39]⟩ (by decide) s.length ⟨s.toArray⟩ (by simp [ByteArray.size])
  have e : (ByteArray.mk #[39, 39]).size = 2 := rfl
  have e2 : (ByteArray.mk s.toArray).size = s.length := by simp [ByteArray.size]
  rw [e, e2]; rw [e2] at this; omega))
 have HD : Hid (Lib.replaceAll s [39] [39, 39] = dbl s) := ra_dbl s
 have L := dbl_len s
 have HMl := Lib.hid (fun w1 (hb : Below w.heap.size w w1) => hm.later hb)
 clear h2 hm
 go_enter Tryz.func103, Tryz.ntmps103
 go_wp2_with fail
 refine (C.out _).mono ?_
 rintro e w1 ⟨rfl, hb⟩
 obtain ⟨⟨c1, c2, c3, c4⟩, HB⟩ := BoxAt.past (textV s) hb
 clear C hb
 go_wp2_with fail
 obtain ⟨m, hm⟩ := HMl.out w1 HB
 have C3 := C2.out w1 m hm
 simp only [HD.out] at C3
 have C3 := Lib.hid C3
 rename_i C3'
 clear C3' C2 hm HMl
 refine C3.out.mono ?_
 rintro e w2 ⟨rfl, hb2⟩
 have HB2 := below_keep HB hb2
 clear C3 hb2
 go_wp2
 go_ret2
 exact ⟨ret_str (by simp), HB2⟩

/-- what Print gives -/
def printE (x : Va) : Value := .tuple #[str (if rightV x = true then printV x else []), .int .i64 (if rightV x = true then 0 else 2)]
theorem print_any (x : Va) (w : World) (hm : Ml w) :
  Calls Tryz.prog 103 #[x.v] w fun e w' => e = .returned (printE x) ∧ Below w.heap.size w w' := by
 unfold printE
 by_cases hx : rightV x = true
 ·simp only [if_pos hx]
  rcases right_cases hx with ⟨r, h1, h2, rfl⟩ | ⟨b, rfl⟩ | ⟨q, hq, rfl⟩ | ⟨s, h1, h2, rfl⟩
  ·exact print_0 r h1 h2 w
  ·exact print_1 b w
  ·rw [print_rat]; exact print_2 q hq w
  ·exact print_3 s h1 h2 w hm
 ·simp only [if_neg hx]
  exact print_bad x (by simpa using hx) w
end Go.Proofs.YtebpfbgaafchjaaGreatDoor
