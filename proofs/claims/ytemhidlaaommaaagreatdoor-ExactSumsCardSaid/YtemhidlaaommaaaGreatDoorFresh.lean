/- A number that is made lies in a block of its own: Of, once more, with that. -/
import Derived.Test.YtemhidlaaommaaaGreatDoorR1
namespace Go.Proofs.YtemhidlaaommaaaGreatDoor
open Go.RowKit

/-- a result in a new block -/
def RetF (q : Rat) (w : World) (e : Ending) (w' : World) : Prop := ∃ g, e = .returned (.pointer (some ⟨g, 0, none⟩)) ∧ w.heap.size ≤ g ∧ IsR w' (.pointer (some ⟨g, 0, none⟩)) q ∧ Below w.heap.size w w'
def RetFE (q : Rat) (w : World) (e : Ending) (w' : World) : Prop := ∃ g, e = .returned (.tuple #[.pointer (some ⟨g, 0, none⟩), .int .i64 0]) ∧ w.heap.size ≤ g ∧ IsR w' (.pointer (some ⟨g, 0, none⟩)) q ∧ Below w.heap.size w w'

set_option maxHeartbeats 800000 in
theorem reducedF_any {neg : Bool} {X Y : Nat} {x y : Value} {w : World} (hx : IsN B32 w x X) (hy : IsN B32 w y Y) (sx : Sm X) (sy : Sm Y) (h0 : Y ≠ 0) :
    Calls Tryz.prog 64 #[.bool neg, x, y] w (RetF (mkRat (sgn neg X) Y) w) := by
  have hgs : Sm (Nat.gcd X Y) := gcd_sm h0 sy
  have hg0 : Nat.gcd X Y ≠ 0 := by intro e; exact h0 (Nat.eq_zero_of_gcd_eq_zero_right e)
  have hG := Lib.hid (gcd_any hx hy sx sy)
  have hQ : Hid (qnum (mkRat (sgn neg X) Y) = X / Nat.gcd X Y ∧ (mkRat (sgn neg X) Y).den = Y / Nat.gcd X Y ∧ qneg (mkRat (sgn neg X) Y) = (neg && decide (X ≠ 0))) :=
    ⟨mk_num neg X Y h0, mk_den neg X Y h0, mk_neg neg X Y h0⟩
  obtain ⟨a, n, cap, hxs, hz⟩ := hx.shape (by decide)
  have hZ : Hid (decide (0 < n) = decide (X ≠ 0)) := by
    show decide (0 < n) = decide (X ≠ 0)
    by_cases e : n = 0
    · simp [e, hz.1 e]
    · have : X ≠ 0 := fun e2 => e (hz.2 e2)
      simp [this]; omega
  obtain ⟨ay, ny, cy, hys, -⟩ := hy.shape (by decide)
  subst hxs hys
  clear hz
  go_enter Tryz.func64, Tryz.ntmps64
  go_wp2_with fail
  refine hG.out.mono ?_
  rintro e w1 ⟨gv, rfl, hgv, hb1⟩
  go_wp2_with fail
  refine (one_any hgv).mono ?_
  rintro e w' ⟨rfl, rfl⟩
  by_cases h1 : Nat.gcd X Y = 1
  · have hd : decide (Nat.gcd X Y = 1) = true := by simp [h1]
    have H1 := Lib.hid h1
    clear h1 hG hgs hg0
    cases neg
    · go_wp2
      go_ret
      refine ⟨_, rfl, hb1.size, IsR.made (by rw [hQ.out.2.2]; rfl) (by rw [hQ.out.1, H1.out, Nat.div_one]; exact hx.later hb1) (by rw [hQ.out.2.1, H1.out, Nat.div_one]; exact hy.later hb1), hb1.alloc hb1.size _⟩
    · go_wp2
      go_ret
      refine ⟨_, rfl, hb1.size, IsR.made (by rw [hQ.out.2.2, ← hZ.out]; simp) (by rw [hQ.out.1, H1.out, Nat.div_one]; exact hx.later hb1) (by rw [hQ.out.2.1, H1.out, Nat.div_one]; exact hy.later hb1), hb1.alloc hb1.size _⟩
  · have hd : decide (Nat.gcd X Y = 1) = false := by simp [h1]
    have HD1 := Lib.hid (div_any (hx.later hb1) hgv sx hg0)
    clear h1 hG
    go_wp2_with fail
    refine HD1.out.mono ?_
    rintro e w2 ⟨v1, u1, rfl, hv1, hu1, hb2⟩
    have HD2 := Lib.hid (div_any ((hy.later hb1).later hb2) (hgv.later hb2) sy hg0)
    clear HD1
    go_wp2_with fail
    refine HD2.out.mono ?_
    rintro e w3 ⟨v2, u2, rfl, hv2, hu2, hb3⟩
    clear HD2
    have hn1 := hv1.later hb3
    obtain ⟨a1, n1, cap1, hs1, hz1⟩ := hn1.shape (by decide)
    have hZ1 : Hid (decide (0 < n1) = decide (X ≠ 0)) := by
      show decide (0 < n1) = decide (X ≠ 0)
      have hXg : X / Nat.gcd X Y = 0 ↔ X = 0 := by
        constructor
        · intro e
          have := Nat.div_mul_cancel (Nat.gcd_dvd_left X Y)
          rw [e, Nat.zero_mul] at this; exact this.symm
        · rintro rfl; simp
      rw [hXg] at hz1
      by_cases e : n1 = 0
      · simp [e, hz1.1 e]
      · have : X ≠ 0 := fun e2 => e (hz1.2 e2)
        simp [this]; omega
    obtain ⟨a2, n2, cap2, hs2, -⟩ := hv2.shape (by decide)
    subst hs1 hs2
    have hb13 : Below w.heap.size w w3 := hb1.trans ((hb2.trans (hb3.mono hb2.size)).mono hb1.size)
    have hf1 : Hid (IsN B32 w3 (.slice a1 n1 cap1) (qnum (mkRat (sgn neg X) Y))) := by show IsN _ _ _ _; rw [hQ.out.1]; exact hn1
    have hf2 : Hid (IsN B32 w3 (.slice a2 n2 cap2) (mkRat (sgn neg X) Y).den) := by show IsN _ _ _ _; rw [hQ.out.2.1]; exact hv2
    clear hn1 hv2 hu1 hu2 hz1 hv1 hgs hg0
    cases neg
    · go_wp2
      go_ret
      exact ⟨_, rfl, hb13.size, IsR.made (by rw [hQ.out.2.2]; rfl) hf1.out hf2.out, hb13.alloc hb13.size _⟩
    · go_wp2
      go_ret
      exact ⟨_, rfl, hb13.size, IsR.made (by rw [hQ.out.2.2, ← hZ1.out]; simp) hf1.out hf2.out, hb13.alloc hb13.size _⟩
theorem ofF_any (n d : Int) (w : World) (h1 : -9223372036854775808 ≤ n) (h2 : n ≤ 9223372036854775807) (h3 : -9223372036854775808 ≤ d) (h4 : d ≤ 9223372036854775807) (h0 : d ≠ 0) :
    Calls Tryz.prog 18 #[.int .i64 n, .int .i64 d] w (RetFE (quoQ n d) w) := by
  have hb0 : (d == 0) = false := by rw [beq_eq_false_iff_ne]; exact h0
  have S1 := Lib.hid (fun w => size_any n w h1 h2)
  have S2 := Lib.hid (fun w => size_any d w h3 h4)
  have hd0 : d.natAbs ≠ 0 := by omega
  go_enter Tryz.func18, Tryz.ntmps18
  go_wp2_with fail
  refine (S1.out _).mono ?_
  rintro e w1 ⟨v1, rfl, hv1, hb1⟩
  go_wp2_with fail
  refine (S2.out _).mono ?_
  rintro e w2 ⟨v2, rfl, hv2, hb2⟩
  have hR := Lib.hid (reducedF_any (neg := decide (n < 0) != decide (d < 0)) (hv1.later hb2) hv2 (Sm.i64 h1 h2) (Sm.i64 h3 h4) hd0)
  have hs := Nat.le_trans hb1.size hb2.size
  go_wp2_with fail
  refine hR.out.mono ?_
  rintro e w3 ⟨g3, rfl, hg3, hv3, hb3⟩
  clear S1 S2 hR
  go_wp2
  go_ret2
  exact ⟨_, rfl, Nat.le_trans hs hg3, hv3, hb1.trans ((hb2.trans (hb3.mono hb2.size)).mono hb1.size)⟩
end Go.Proofs.YtemhidlaaommaaaGreatDoor
