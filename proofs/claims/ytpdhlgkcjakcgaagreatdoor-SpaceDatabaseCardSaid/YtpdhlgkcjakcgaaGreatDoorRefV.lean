/- The reference's values, contracts: Check of any value, Number, Fits. -/
import Derived.Deep.RegionHeld3
import Derived.Test.YtpdhlgkcjakcgaaGreatDoorRefO
import Derived.Test.YtpdhlgkcjakcgaaGreatDoorRefU
import Derived.Test.YtpdhlgkcjakcgaaGreatDoorV3
namespace Go.Proofs.YtpdhlgkcjakcgaaGreatDoor
open Go.RowKit

theorem chk_good {x : Va} (h : rightV x = true) : chk x = 0 := by unfold chk; rw [if_pos h]
theorem chk_bad {x : Va} (h : rightV x = false) : chk x = 2 := by unfold chk; rw [if_neg (by rw [h]; decide)]
theorem rcheck_any (x : Va) (w : World) (hs : x.str.length ≤ 9223372036854775807) :
    Calls Tryz.prog 158 #[x.v] w (RetV (.int .i64 (chk x)) w) := by
  by_cases h0 : x.kind = 0
  · obtain ⟨k, n, d, s⟩ := x; obtain rfl : k = 0 := h0; exact rcheck_0 n d s w
  by_cases h1 : x.kind = 1
  · obtain ⟨k, n, d, s⟩ := x; obtain rfl : k = 1 := h1; exact rcheck_1 n d s w
  by_cases h3 : x.kind = 3
  · obtain ⟨k, n, d, s⟩ := x; obtain rfl : k = 3 := h3; exact rcheck_3 n d s w hs
  by_cases h2 : x.kind = 2
  · obtain ⟨k, n, d, s⟩ := x
    obtain rfl : k = 2 := h2
    by_cases h : numOk n d ∧ s = []
    · obtain ⟨h, rfl⟩ := h
      obtain ⟨e, rfl⟩ : ∃ e : Nat, d = e := ⟨d.toNat, by unfold numOk at h; omega⟩
      have e1 : chk ⟨2, n, e, []⟩ = if Nat.gcd n.natAbs e = 1 then 0 else 2 := by
        have hr : rightV ⟨2, n, e, []⟩ = decide (Nat.gcd n.natAbs e = 1) := by
          show decide (_ ∧ _) = _
          rw [Bool.eq_iff_iff, decide_eq_true_eq, decide_eq_true_eq, Int.natAbs_natCast]
          exact ⟨fun h => h.2.2.2.2.2, fun h' => ⟨rfl, h.1, h.2.1, h.2.2.1, h.2.2.2, h'⟩⟩
        unfold chk
        rw [hr]; simp
      rw [e1]; exact rcheck_2 n e w h
    · have e1 : chk ⟨2, n, d, s⟩ = 2 := by
        apply chk_bad
        show decide (_ ∧ _) = _
        rw [decide_eq_false_iff_not]
        exact fun h' => h ⟨⟨h'.2.1, h'.2.2.1, h'.2.2.2.1, h'.2.2.2.2.1⟩, h'.1⟩
      rw [e1]; exact rcheck_2n n d s w h
  · exact rcheck_other x w h0 h1 h2 h3

theorem rfits_bad (x : Va) (t : Int) (w : World) (hs : x.str.length ≤ 9223372036854775807) (h : rightV x = false ∨ t < 1 ∨ 4 < t) :
    Calls Tryz.prog 132 #[x.v, .int .i64 t] w (RetV (.bool false) w) := by
  have C := fun w1 => rcheck_any x w1 hs
  have h' : chk x = 2 ∨ (chk x = 0 ∧ decide (t < 1) = true) ∨ (chk x = 0 ∧ decide (t < 1) = false ∧ decide (4 < t) = true) := by
    cases hr : rightV x with
    | false => exact .inl (chk_bad hr)
    | true =>
      by_cases h1 : t < 1
      · exact .inr (.inl ⟨chk_good hr, by simpa using h1⟩)
      · refine .inr (.inr ⟨chk_good hr, by simpa using h1, ?_⟩)
        rcases h with h | h | h
        · rw [hr] at h; cases h
        · exact absurd h h1
        · simpa using h
  clear h hs
  rcases h' with hr | ⟨hr, h1⟩ | ⟨hr, h1, h2⟩
  all_goals
    simp only [hr] at C
    have C := Lib.hid C
    rename_i C'
    clear C' hr
    go_enter Tryz.func132, Tryz.ntmps132
    go_wp2_with fail
    refine (C.out _).mono ?_
    rintro e w1 ⟨rfl, hb⟩
    obtain ⟨⟨c1, c2, c3, c4⟩, HB⟩ := BoxAt.past x hb
    clear C hb
    go_wp2
    go_ret
    exact ⟨rfl, HB⟩

set_option maxHeartbeats 800000 in
theorem rfits_good (x : Va) (t : Int) (w : World) (h : rightV x = true) (h1 : 1 ≤ t) (h2 : t ≤ 4) (hs : x.str.length ≤ 9223372036854775807) :
    Calls Tryz.prog 132 #[x.v, .int .i64 t] w (RetV (.bool (fitsV x t)) w) := by
  have C := fun w1 => rcheck_any x w1 hs
  have hf : fitsV x t = (if x.kind = 1 then decide (t = 1) else if x.kind = 2 then decide (t = 3 ∨ (t = 2 ∧ x.den = 1)) else if x.kind = 3 then decide (t = 4) else true) := by
    unfold fitsV
    have : decide (1 ≤ t ∧ t ≤ 4) = true := by simp [h1, h2]
    rw [h, this]; rfl
  rw [hf]
  have e1 : decide (t < 1) = false := by rw [decide_eq_false_iff_not]; omega
  have e2 : decide (4 < t) = false := by rw [decide_eq_false_iff_not]; omega
  have hk : x.kind = 0 ∨ x.kind = 1 ∨ x.kind = 2 ∨ x.kind = 3 := by
    rcases right_cases h with ⟨r, h1, h2, rfl⟩ | ⟨b, rfl⟩ | ⟨q, hq, rfl⟩ | ⟨s, h1, h2, rfl⟩
    · exact .inl rfl
    · exact .inr (.inl rfl)
    · exact .inr (.inr (.inl rfl))
    · exact .inr (.inr (.inr rfl))
  simp only [chk_good h] at C
  have C := Lib.hid C
  rename_i C'
  clear C'
  obtain ⟨k, n, d, s⟩ := x
  simp only at hk ⊢
  have HT : Hid (1 ≤ t ∧ t ≤ 4) := ⟨h1, h2⟩
  clear h hf h1 h2 hs
  rcases hk with rfl | rfl | rfl | rfl
  · go_enter Tryz.func132, Tryz.ntmps132
    go_wp2_with fail
    refine (C.out _).mono ?_
    rintro e w1 ⟨rfl, hb⟩
    obtain ⟨⟨c1, c2, c3, c4⟩, HB⟩ := BoxAt.past ⟨_, n, d, s⟩ hb
    clear C hb
    go_wp2
    all_goals
      go_ret
      exact ⟨ret_bool (by simp), HB⟩
  · go_enter Tryz.func132, Tryz.ntmps132
    go_wp2_with fail
    refine (C.out _).mono ?_
    rintro e w1 ⟨rfl, hb⟩
    obtain ⟨⟨c1, c2, c3, c4⟩, HB⟩ := BoxAt.past ⟨_, n, d, s⟩ hb
    clear C hb
    go_wp2
    all_goals
      go_ret
      exact ⟨ret_bool (by rw [Bool.eq_iff_iff]; simp), HB⟩
  · go_enter Tryz.func132, Tryz.ntmps132
    go_wp2_with fail
    refine (C.out _).mono ?_
    rintro e w1 ⟨rfl, hb⟩
    obtain ⟨⟨c1, c2, c3, c4⟩, HB⟩ := BoxAt.past ⟨_, n, d, s⟩ hb
    clear C hb
    go_wp2
    all_goals
      go_ret
      refine ⟨ret_bool ?_, HB⟩
      first
        | rfl
        | (rw [Bool.eq_iff_iff]; simp; done)
        | (simp_all; done)
  · go_enter Tryz.func132, Tryz.ntmps132
    go_wp2_with fail
    refine (C.out _).mono ?_
    rintro e w1 ⟨rfl, hb⟩
    obtain ⟨⟨c1, c2, c3, c4⟩, HB⟩ := BoxAt.past ⟨_, n, d, s⟩ hb
    clear C hb
    go_wp2
    all_goals
      go_ret
      exact ⟨ret_bool (by rw [Bool.eq_iff_iff]; simp), HB⟩

theorem rfits_any (x : Va) (t : Int) (w : World) (hs : x.str.length ≤ 9223372036854775807) :
    Calls Tryz.prog 132 #[x.v, .int .i64 t] w (RetV (.bool (fitsV x t)) w) := by
  by_cases h : rightV x = true ∧ 1 ≤ t ∧ t ≤ 4
  · exact rfits_good x t w h.1 h.2.1 h.2.2 hs
  · have hf : fitsV x t = false := by
      unfold fitsV
      by_cases h1 : rightV x = true
      · have : decide (1 ≤ t ∧ t ≤ 4) = false := by rw [decide_eq_false_iff_not]; exact fun h2 => h ⟨h1, h2⟩
        rw [this]; simp
      · have : rightV x = false := by simpa using h1
        rw [this]; rfl
    rw [hf]
    refine rfits_bad x t w hs ?_
    by_cases h1 : rightV x = true
    · right
      by_cases h2 : t < 1
      · exact .inl h2
      · exact .inr (by
          by_cases h3 : 4 < t
          · exact h3
          · exact absurd ⟨h1, by omega, by omega⟩ h)
    · left; simpa using h1
end Go.Proofs.YtpdhlgkcjakcgaaGreatDoor
