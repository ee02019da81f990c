/- ExactValues: the walk. -/
import Derived.Deep.RegionHeld3
import Derived.Test.YtemhidlaaommaaaGreatDoorOpen
import Derived.Test.YtemhidlaaommaaaGreatDoorRDoP
import Derived.Test.YtemhidlaaommaaaGreatDoorRefM
import Derived.Test.YtemhidlaaommaaaGreatDoorRefW
import Derived.Test.YtemhidlaaommaaaGreatDoorRefX
import Derived.Test.YtemhidlaaommaaaGreatDoorW1
namespace Go.Proofs.YtemhidlaaommaaaGreatDoor
open Go.RowKit

theorem check_chk (x : Va) (w : World) : Calls Tryz.prog 51 #[x.v] w (RetV (.int .i64 (chk x)) w) := check_any x w

set_option maxHeartbeats 16000000 in
set_option maxRecDepth 100000 in
theorem values_any (v u : Va) (t : Int) (w : World) (hm : Ml w) (hv : VaW v) (hu : VaW u) (_ : -9223372036854775808 ≤ t) (_ : t ≤ 9223372036854775807) :
    Calls Tryz.prog 17 #[v.v, u.v, .int .i64 t] w (RetV (.bool true) w) := by
  have hs : v.str.length ≤ 9223372036854775807 := by have := hv.str; unfold maxLen at this; omega
  have ht : u.str.length ≤ 9223372036854775807 := by have := hu.str; unfold maxLen at this; omega
  obtain ⟨P, p0, PK, PD, PG⟩ := boxVV v u w
  have P0 := Lib.hid p0
  have HM := Lib.hid (fun w1 (h : P w1) => works_any w1 (hm.later (PG.out _ h).2.2))
  have PA := fun w1 (h : P w1) => print_any v w1 (hm.later (PG.out _ h).2.2)
  have PB := fun w1 => rprint_any v w1 hs
  obtain ⟨S, z, hp⟩ : ∃ (S : ByteArray) (z : Int), printE v = .tuple #[.string S, .int .i64 z] := ⟨_, _, rfl⟩
  simp only [hp] at PA PB
  have PA := Lib.hid PA
  have PB := Lib.hid PB
  obtain ⟨c, hc⟩ : ∃ c, c = chk v := ⟨_, rfl⟩
  obtain ⟨f, hf⟩ : ∃ f, f = fitsV v t := ⟨_, rfl⟩
  obtain ⟨d, hd⟩ : ∃ d, d = ordE v u := ⟨_, rfl⟩
  have CA : Hid (∀ w1, Calls Tryz.prog 51 #[v.v] w1 (RetV (.int .i64 c) w1)) := fun w1 => hc ▸ check_chk v w1
  have CB : Hid (∀ w1, Calls Tryz.prog 60 #[v.v] w1 (RetV (.int .i64 c) w1)) := fun w1 => hc ▸ rcheck_any v w1 hs
  have FA : Hid (∀ w1, Calls Tryz.prog 52 #[v.v, .int .i64 t] w1 (RetV (.bool f) w1)) := fun w1 => hf ▸ fits_any v t w1
  have FB : Hid (∀ w1, Calls Tryz.prog 61 #[v.v, .int .i64 t] w1 (RetV (.bool f) w1)) := fun w1 => hf ▸ rfits_any v t w1 hs
  have OA : Hid (∀ w1, Calls Tryz.prog 62 #[v.v, u.v] w1 (RetV (.int .i64 d) w1)) := fun w1 => hd ▸ Order_any v u w1
  have OB : Hid (∀ w1, Calls Tryz.prog 63 #[v.v, u.v] w1 (RetV (.int .i64 d) w1)) := fun w1 => hd ▸ rorder_any v u w1 hs ht
  have KD : Hid (∀ y, P y → y.cell? ⟨w.heap.size, 0, none⟩ = some (.int .i64 v.kind) ∧ y.cell? ⟨w.heap.size, 1, none⟩ = some (.int .i64 v.num) ∧ y.cell? ⟨w.heap.size, 2, none⟩ = some (.int .i64 v.den) ∧ y.cell? ⟨w.heap.size, 3, none⟩ = some (.string ⟨v.str.toArray⟩) ∧
      y.cell? ⟨w.heap.size + 1, 0, none⟩ = some (.int .i64 u.kind) ∧ y.cell? ⟨w.heap.size + 1, 1, none⟩ = some (.int .i64 u.num) ∧ y.cell? ⟨w.heap.size + 1, 2, none⟩ = some (.int .i64 u.den) ∧ y.cell? ⟨w.heap.size + 1, 3, none⟩ = some (.string ⟨u.str.toArray⟩) ∧ P y) := fun y h => by
    obtain ⟨⟨a0, a1, a2, a3⟩, ⟨b0, b1, b2, b3⟩, -⟩ := PG.out _ h
    exact ⟨a0, a1, a2, a3, b0, b1, b2, b3, h⟩
  have e1 : (S.toList == S.toList) = true := by simp
  have e2 : (z == z) = true := by simp
  have e3 : (c == c) = true := by simp
  have e4 : (f == f) = true := by simp
  have e5 : (d == d) = true := by simp
  have fin : Hid (∀ y, P y → Below w.heap.size w y) := fun y h => (PG.out _ h).2.2
  clear p0 hm PG hc hf hd hp
  rename_i s1 s2
  clear s1 s2
  by_cases hq : v.kind = 2 ∧ rightV v = true
  · obtain ⟨q, hq0, hvq⟩ := ratOf hq.2 (by unfold isK; rw [decide_eq_true_eq]; exact .inr hq.1) (by omega)
    have NA : Hid (∀ w1, Calls Tryz.prog 57 #[v.v] w1 fun e w' => ∃ x, e = .returned (.tuple #[x, .bool true]) ∧ IsR w' x q ∧ Below w1.heap.size w1 w') := fun w1 => by
      have := numberV_any v w1
      unfold RetNum at this
      simp only [if_pos hq] at this
      rwa [show qOf v = q from by rw [hvq, qOf_ratV]] at this
    have NB : Hid (∀ w1, Calls Tryz.prog 58 #[v.v] w1 fun e w' => ∃ x, e = .returned (.tuple #[x, .bool true]) ∧ Q9 w' x q ∧ Below w1.heap.size w1 w') := fun w1 => by
      rw [hvq]; exact rnumber_good q hq0 w1
    have SM := Lib.hid (fun w1 x y (h1 : IsR w1 x q) (h2 : Q9 w1 y q) => same_any h1 h2 hq0.bd (by omega))
    clear hq hq0 hvq hs ht hv hu
    go_enter Tryz.func17, Tryz.ntmps17
    go_wp2_with fail
    refine (NA.out _).mono ?_
    rintro e w1 ⟨x1, rfl, hx1, hb1⟩
    have P1 := Lib.hid (PK.out _ _ P0.out hb1)
    have X1 := Lib.hid hx1
    obtain ⟨gx, vnx, vdx, rfl, -⟩ := hx1
    obtain ⟨k0, k1, k2, k3, -⟩ := KD.out _ P1.out
    clear hb1 NA P0
    go_wp2_with fail
    refine (NB.out _).mono ?_
    rintro e w2 ⟨x2, rfl, ⟨vn, vd, rfl, hn, hd⟩, hb2⟩
    obtain ⟨a1, n1, c1, rfl, -⟩ := hn.shape (by decide)
    obtain ⟨a2, n2, c2, rfl, -⟩ := hd.shape (by decide)
    obtain ⟨b, hb⟩ : ∃ b, b = qneg q := ⟨_, rfl⟩
    rw [← hb]
    have P2 := Lib.hid (PK.out _ _ (PK.out _ _ P1.out hb2) (below_alloc w2 (.cells #[.bool b, .slice a1 n1 c1, .slice a2 n2 c2] 28)))
    have SM2 := Lib.hid (SM.out (w2.alloc (.cells #[.bool b, .slice a1 n1 c1, .slice a2 n2 c2] 28)) _ (.agg #[.bool b, .slice a1 n1 c1, .slice a2 n2 c2]) ((X1.out.later hb2).later (below_alloc _ _)) ⟨_, _, by rw [hb], hn.later (below_alloc _ _), hd.later (below_alloc _ _)⟩)
    clear hn hd hb2 hb NB SM k0 k1 k2 k3
    go_wp2_with fail
    refine SM2.out.mono ?_
    rintro e w3 ⟨rfl, hb3⟩
    have P3 := Lib.hid (PK.out _ _ P2.out hb3)
    obtain ⟨k0, k1, k2, k3, -⟩ := KD.out _ P3.out
    clear hb3 SM2
    go_wp2_with fail
    refine (PA.out _ P3.out).mono ?_
    rintro e w4 ⟨rfl, hb4⟩
    have P4 := Lib.hid (PK.out _ _ P3.out hb4)
    clear hb4 k0 k1 k2 k3
    obtain ⟨k0, k1, k2, k3, -⟩ := KD.out _ P4.out
    go_wp2_with fail
    refine (PB.out _).mono ?_
    rintro e w5 ⟨rfl, hb5⟩
    have P5 := Lib.hid (PK.out _ _ P4.out hb5)
    clear hb5 k0 k1 k2 k3
    have hP := PD.out _ P5.out
    go_wp2_with fail
    go_region_held3 (fun w' => w'.cell? ⟨w.heap.size, 0, none⟩ = some (.int .i64 v.kind) ∧ w'.cell? ⟨w.heap.size, 1, none⟩ = some (.int .i64 v.num) ∧ w'.cell? ⟨w.heap.size, 2, none⟩ = some (.int .i64 v.den) ∧ w'.cell? ⟨w.heap.size, 3, none⟩ = some (.string ⟨v.str.toArray⟩) ∧
      w'.cell? ⟨w.heap.size + 1, 0, none⟩ = some (.int .i64 u.kind) ∧ w'.cell? ⟨w.heap.size + 1, 1, none⟩ = some (.int .i64 u.num) ∧ w'.cell? ⟨w.heap.size + 1, 2, none⟩ = some (.int .i64 u.den) ∧ w'.cell? ⟨w.heap.size + 1, 3, none⟩ = some (.string ⟨u.str.toArray⟩) ∧ P w')
      (exact KD.out _ (by assumption))
      (first
        | (go_at_call 51; refine (CA.out _).mono ?_; rintro e x1 ⟨rfl, hb1⟩; have hP1 := PK.out _ _ hP hb1)
        | (go_at_call 60; refine (CB.out _).mono ?_; rintro e x2 ⟨rfl, hb2⟩; have hP2 := PK.out _ _ hP1 hb2)
        | (go_at_call 52; refine (FA.out _).mono ?_; rintro e x3 ⟨rfl, hb3⟩; have hP3 := PK.out _ _ hP2 hb3)
        | (go_at_call 61; refine (FB.out _).mono ?_; rintro e x4 ⟨rfl, hb4⟩; have hP4 := PK.out _ _ hP3 hb4)
        | (go_at_call 62; refine (OA.out _).mono ?_; rintro e x5 ⟨rfl, hb5⟩; have hP5 := PK.out _ _ hP4 hb5)
        | (go_at_call 63; refine (OB.out _).mono ?_; rintro e x6 ⟨rfl, hb6⟩; have hP6 := PK.out _ _ hP5 hb6)
        | (go_at_call 20; refine (HM.out _ hP6).mono ?_; rintro e x7 ⟨rfl, hb7⟩; have hP7 := PK.out _ _ hP6 hb7))
    have R9 := Lib.hid (fin.out _ hP7)
    go_wp2
    go_ret
    exact ⟨rfl, R9.out⟩
  · have NA : Hid (∀ w1, Calls Tryz.prog 57 #[v.v] w1 (RetV (.tuple #[.pointer none, .bool false]) w1)) := fun w1 => by
      have := numberV_any v w1
      unfold RetNum at this
      simp only [if_neg hq] at this
      exact this
    have NB : Hid (∀ w1, Calls Tryz.prog 58 #[v.v] w1 (RetV (.tuple #[.agg #[.bool false, .slice none 0 0, .slice none 0 0], .bool false]) w1)) := fun w1 => by
      refine rnumber_bad v w1 hs ?_
      cases hr : rightV v with
      | false => exact .inl rfl
      | true => exact .inr ⟨rfl, fun h => hq ⟨h, hr⟩⟩
    clear hq hs ht hv hu
    go_enter Tryz.func17, Tryz.ntmps17
    go_wp2_with fail
    refine (NA.out _).mono ?_
    rintro e w1 ⟨rfl, hb1⟩
    have P1 := Lib.hid (PK.out _ _ P0.out hb1)
    obtain ⟨k0, k1, k2, k3, -⟩ := KD.out _ P1.out
    clear hb1 NA P0
    go_wp2_with fail
    refine (NB.out _).mono ?_
    rintro e w2 ⟨rfl, hb2⟩
    have P3 := Lib.hid (PK.out _ _ (PK.out _ _ P1.out hb2) (below_alloc w2 (.cells #[.bool false, .slice none 0 0, .slice none 0 0] 28)))
    clear hb2 NB k0 k1 k2 k3
    obtain ⟨k0, k1, k2, k3, -⟩ := KD.out _ P3.out
    go_wp2_with fail
    refine (PA.out _ P3.out).mono ?_
    rintro e w4 ⟨rfl, hb4⟩
    have P4 := Lib.hid (PK.out _ _ P3.out hb4)
    clear hb4 k0 k1 k2 k3
    obtain ⟨k0, k1, k2, k3, -⟩ := KD.out _ P4.out
    go_wp2_with fail
    refine (PB.out _).mono ?_
    rintro e w5 ⟨rfl, hb5⟩
    have P5 := Lib.hid (PK.out _ _ P4.out hb5)
    clear hb5 k0 k1 k2 k3
    have hP := PD.out _ P5.out
    go_wp2_with fail
    go_region_held3 (fun w' => w'.cell? ⟨w.heap.size, 0, none⟩ = some (.int .i64 v.kind) ∧ w'.cell? ⟨w.heap.size, 1, none⟩ = some (.int .i64 v.num) ∧ w'.cell? ⟨w.heap.size, 2, none⟩ = some (.int .i64 v.den) ∧ w'.cell? ⟨w.heap.size, 3, none⟩ = some (.string ⟨v.str.toArray⟩) ∧
      w'.cell? ⟨w.heap.size + 1, 0, none⟩ = some (.int .i64 u.kind) ∧ w'.cell? ⟨w.heap.size + 1, 1, none⟩ = some (.int .i64 u.num) ∧ w'.cell? ⟨w.heap.size + 1, 2, none⟩ = some (.int .i64 u.den) ∧ w'.cell? ⟨w.heap.size + 1, 3, none⟩ = some (.string ⟨u.str.toArray⟩) ∧ P w')
      (exact KD.out _ (by assumption))
      (first
        | (go_at_call 51; refine (CA.out _).mono ?_; rintro e x1 ⟨rfl, hb1⟩; have hP1 := PK.out _ _ hP hb1)
        | (go_at_call 60; refine (CB.out _).mono ?_; rintro e x2 ⟨rfl, hb2⟩; have hP2 := PK.out _ _ hP1 hb2)
        | (go_at_call 52; refine (FA.out _).mono ?_; rintro e x3 ⟨rfl, hb3⟩; have hP3 := PK.out _ _ hP2 hb3)
        | (go_at_call 61; refine (FB.out _).mono ?_; rintro e x4 ⟨rfl, hb4⟩; have hP4 := PK.out _ _ hP3 hb4)
        | (go_at_call 62; refine (OA.out _).mono ?_; rintro e x5 ⟨rfl, hb5⟩; have hP5 := PK.out _ _ hP4 hb5)
        | (go_at_call 63; refine (OB.out _).mono ?_; rintro e x6 ⟨rfl, hb6⟩; have hP6 := PK.out _ _ hP5 hb6)
        | (go_at_call 20; refine (HM.out _ hP6).mono ?_; rintro e x7 ⟨rfl, hb7⟩; have hP7 := PK.out _ _ hP6 hb7))
    have R9 := Lib.hid (fin.out _ hP7)
    go_wp2
    go_ret
    exact ⟨rfl, R9.out⟩
end Go.Proofs.YtemhidlaaommaaaGreatDoor
