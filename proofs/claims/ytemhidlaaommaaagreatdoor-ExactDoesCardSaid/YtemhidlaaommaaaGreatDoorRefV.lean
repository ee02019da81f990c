/- The reference's values, contracts: Check of any value, Number, Fits. -/
import Derived.Deep.RegionHeld3
import Derived.Test.YtemhidlaaommaaaGreatDoorRefO
import Derived.Test.YtemhidlaaommaaaGreatDoorRefU
import Derived.Test.YtemhidlaaommaaaGreatDoorV3
namespace Go.Proofs.YtemhidlaaommaaaGreatDoor
open Go.RowKit

theorem chk_good {x : Va} (h : rightV x = true) : chk x = 0 := by unfold chk; rw [if_pos h]
theorem chk_bad {x : Va} (h : rightV x = false) : chk x = 2 := by unfold chk; rw [if_neg (by rw [h]; decide)]
theorem rcheck_any (x : Va) (w : World) (hs : x.str.length ≤ 9223372036854775807) :
    Calls Tryz.prog 60 #[x.v] w (RetV (.int .i64 (chk x)) w) := by
  by_cases h0 : x.kind = 0
  · obtain ⟨k, n, d, s⟩ := x; obtain rfl : k = 0 := h0; exact rcheck_0 n d s w
  by_cases h1 : x.kind = 1
  · obtain ⟨k, n, d, s⟩ := x; obtain rfl : k = 1 := h1; exact rcheck_1 n d s w
  by_cases h3 : x.kind = 3
  · obtain ⟨k, n, d, s⟩ := x; obtain rfl : k = 3 := h3; exact rcheck_3 n d s w hs
  by_cases h2 : x.kind = 2
  · obtain ⟨k, n, d, s⟩ := x
    obtain rfl : k = 2 := h2
    by_cases h : numOk n d ∧ s = []
    · obtain ⟨h, rfl⟩ := h
      obtain ⟨e, rfl⟩ : ∃ e : Nat, d = e := ⟨d.toNat, by unfold numOk at h; omega⟩
      have e1 : chk ⟨2, n, e, []⟩ = if Nat.gcd n.natAbs e = 1 then 0 else 2 := by
        have hr : rightV ⟨2, n, e, []⟩ = decide (Nat.gcd n.natAbs e = 1) := by
          show decide (_ ∧ _) = _
          rw [Bool.eq_iff_iff, decide_eq_true_eq, decide_eq_true_eq, Int.natAbs_natCast]
          exact ⟨fun h => h.2.2.2.2.2, fun h' => ⟨rfl, h.1, h.2.1, h.2.2.1, h.2.2.2, h'⟩⟩
        unfold chk
        rw [hr]; simp
      rw [e1]; exact rcheck_2 n e w h
    · have e1 : chk ⟨2, n, d, s⟩ = 2 := by
        apply chk_bad
        show decide (_ ∧ _) = _
        rw [decide_eq_false_iff_not]
        exact fun h' => h ⟨⟨h'.2.1, h'.2.2.1, h'.2.2.2.1, h'.2.2.2.2.1⟩, h'.1⟩
      rw [e1]; exact rcheck_2n n d s w h
  · exact rcheck_other x w h0 h1 h2 h3

/-- a value in a box, and a number's block for the result: P (nothing is written yet), Q (the result may be written) -/
theorem boxVR (x : Va) (w : World) : ∃ P Q : World → Prop, P ((w.alloc (.cells #[.int .i64 x.kind, .int .i64 x.num, .int .i64 x.den, .string ⟨x.str.toArray⟩] 45)).alloc (.cells #[.bool false, .slice none 0 0, .slice none 0 0] 28)) ∧
    Hid (∀ w1 w2, P w1 → Below w1.heap.size w1 w2 → P w2) ∧ Hid (∀ w1, P w1 → P w1.drew) ∧ Hid (∀ w1, P w1 → Q w1) ∧ Hid (∀ w1, P w1 → Res9 w1 (w.heap.size + 1)) ∧
    Hid (∀ w1 z0 z1 z2, Q w1 → Q (set9 w1 (w.heap.size + 1) z0 z1 z2)) ∧ Hid (∀ w1, Q w1 → BoxAt w1 w.heap.size x ∧ Below w.heap.size w w1) := by
  obtain ⟨w2, hw2⟩ : ∃ w2, w2 = w.alloc (.cells #[.int .i64 x.kind, .int .i64 x.num, .int .i64 x.den, .string ⟨x.str.toArray⟩] 45) := ⟨_, rfl⟩
  have hsz : w2.heap.size = w.heap.size + 1 := by rw [hw2]; simp
  have hb2 : Below w.heap.size w w2 := by rw [hw2]; exact below_alloc _ _
  have x1 : BoxAt w2 w.heap.size x := by rw [hw2]; exact BoxAt.made x w _
  rw [← hw2]
  have hr := Res9.made w2 28
  rw [hsz] at hr
  have hb3 := below_alloc w2 (.cells #[.bool false, .slice none 0 0, .slice none 0 0] 28)
  refine ⟨fun w1 => Below w2.heap.size w2 w1 ∧ Res9 w1 (w.heap.size + 1), fun w1 => Below w2.heap.size w2 w1, ⟨hb3, hr⟩, fun w1 w' h h' => ⟨below_keep h.1 h', h.2.later h' (World.block_lt_of_cell? _ _ h.2.c0)⟩, fun w1 h => ⟨h.1.drew, ⟨h.2.c0, h.2.c1, h.2.c2, h.2.f0, h.2.f1, h.2.f2⟩⟩, fun w1 h => h.1, fun w1 h => h.2, fun w1 z0 z1 z2 h => ?_, fun w1 h => ⟨x1.later h (by rw [hsz]; omega), below_keep hb2 h⟩⟩
  exact ((h.setCell (by rw [hsz]; exact Nat.le_refl _) _).setCell (by rw [hsz]; exact Nat.le_refl _) _).setCell (by rw [hsz]; exact Nat.le_refl _) _

set_option maxHeartbeats 1600000 in
set_option maxRecDepth 100000 in
theorem rnumber_core (q : Rat) (b : Bool) (N D : Int) (w : World) (hE : decide (N < 0) = b) (hb : b = qneg q)
    (CC : ∀ w1, Calls Tryz.prog 60 #[(Va.mk 2 N D []).v] w1 (RetV (.int .i64 0) w1))
    (C1 : ∀ w1, Calls Tryz.prog 67 #[.int .i64 N] w1 (RetN B9 (qnum q) w1)) (C2 : ∀ w1, Calls Tryz.prog 67 #[.int .i64 D] w1 (RetN B9 q.den w1)) :
    Calls Tryz.prog 58 #[(Va.mk 2 N D []).v] w fun e w' => ∃ v, e = .returned (.tuple #[v, .bool true]) ∧ Q9 w' v q ∧ Below w.heap.size w w' := by
  obtain ⟨P, Q, p0, PK, PD, PQ, PR, QS, QG⟩ := boxVR ⟨2, N, D, []⟩ w
  have KD := Lib.hid (fun (w1 : World) (h : Q w1) => And.intro (QG.out _ h).1.num (And.intro (QG.out _ h).1.den h))
  have CC := Lib.hid CC
  have C1 := Lib.hid C1
  have C2 := Lib.hid C2
  rename_i CC' C1' C2'
  clear CC' C1' C2'
  have P0 := Lib.hid p0
  have HB := Lib.hid hb
  clear p0 hb
  go_enter Tryz.func58, Tryz.ntmps58
  go_wp2_with fail
  refine (CC.out _).mono ?_
  rintro e w1 ⟨rfl, hb1⟩
  have P1 := Lib.hid (PK.out _ _ P0.out hb1)
  obtain ⟨⟨k0, k1, k2, k3⟩, -⟩ := QG.out _ (PQ.out _ P1.out)
  have hP := PD.out _ P1.out
  clear hb1 CC P0
  go_wp2_with fail
  go_region_held3 (fun w' => w'.cell? ⟨w.heap.size, 1, none⟩ = some (.int .i64 N) ∧ w'.cell? ⟨w.heap.size, 2, none⟩ = some (.int .i64 D) ∧ Q w')
    (first | exact KD.out _ (PQ.out _ (by assumption)) | exact KD.out _ (QS.out _ _ _ _ (PQ.out _ (by assumption))))
    (first
      | (go_at_call_of 67 (Value.int .i64 N); refine (C1.out _).mono ?_; rintro e w2 ⟨v1, rfl, hv1, hb1⟩; have hP1 := PK.out _ _ hP hb1)
      | (go_at_call_of 67 (Value.int .i64 D); refine (C2.out _).mono ?_; rintro e w3 ⟨v2, rfl, hv2, hb2⟩; obtain ⟨a1, n1, c1, rfl, -⟩ := hv1.shape (by decide); obtain ⟨a2, n2, c2, rfl, -⟩ := hv2.shape (by decide); have hP2 := PK.out _ _ hP1 hb2; obtain ⟨r0, r1, r2, f0, f1, f2⟩ := PR.out _ hP2))
  have HR := Lib.hid (PR.out _ hP2)
  have HN := Lib.hid (hv1.later hb2)
  have HD := Lib.hid hv2
  have HW := Lib.hid (QG.out _ (PQ.out _ hP2)).2
  clear hP hP1 hP2 hb1 hb2 hv1 hv2
  go_wp2
  refine bodyPost_ret (by simp [results, Tryz.results58, go_sem, r0, r1, r2]; try rfl) rfl ?_
  exact ⟨_, rfl, ⟨_, _, by rw [HB.out], HR.out.set3 HN.out _ _ _, HR.out.set3 HD.out _ _ _⟩, below_set3' HW.out (by omega)⟩

set_option maxHeartbeats 1600000 in
theorem rnumber_bad (x : Va) (w : World) (hs : x.str.length ≤ 9223372036854775807) (h : rightV x = false ∨ (rightV x = true ∧ x.kind ≠ 2)) :
    Calls Tryz.prog 58 #[x.v] w (RetV (.tuple #[.agg #[.bool false, .slice none 0 0, .slice none 0 0], .bool false]) w) := by
  have CC := fun w1 => rcheck_any x w1 hs
  obtain ⟨P, Q, p0, PK, PD, PQ, PR, QS, QG⟩ := boxVR x w
  have P0 := Lib.hid p0
  clear p0 hs
  have h' : (chk x = 2) ∨ (chk x = 0 ∧ (x.kind == (2 : Int)) = false) := by
    rcases h with h | ⟨h, h2⟩
    · exact .inl (chk_bad h)
    · exact .inr ⟨chk_good h, by rw [beq_eq_false_iff_ne]; exact h2⟩
  clear h
  rcases h' with h1 | ⟨h1, h2⟩
  all_goals
    simp only [h1] at CC
    have CC := Lib.hid CC
    rename_i CC'
    clear CC' h1
    go_enter Tryz.func58, Tryz.ntmps58
    go_wp2_with fail
    refine (CC.out _).mono ?_
    rintro e w1 ⟨rfl, hb1⟩
    have P1 := Lib.hid (PK.out _ _ P0.out hb1)
    obtain ⟨⟨k0, k1, k2, k3⟩, -⟩ := QG.out _ (PQ.out _ P1.out)
    obtain ⟨r0, r1, r2, f0, f1, f2⟩ := PR.out _ P1.out
    have HW := Lib.hid (QG.out _ (PQ.out _ P1.out)).2
    clear hb1 CC P0
    go_wp2
    refine bodyPost_ret (by simp [results, Tryz.results58, go_sem, r0, r1, r2]; try rfl) rfl ?_
    exact ⟨rfl, below_set3' HW.out (by omega)⟩

theorem rnumber_good (q : Rat) (hq : FitQ q) (w : World) :
    Calls Tryz.prog 58 #[(ratV q).v] w fun e w' => ∃ v, e = .returned (.tuple #[v, .bool true]) ∧ Q9 w' v q ∧ Below w.heap.size w w' := by
  have hlim : -9223372036854775808 ≤ q.num ∧ q.num ≤ 9223372036854775807 ∧ (q.den : Int) ≤ 9223372036854775807 := by
    have := hq.num; have := hq.den; unfold qnum T40 at *; omega
  refine rnumber_core q (qneg q) q.num q.den w rfl rfl (fun w1 => ?_) (fun w1 => size9_any q.num w1 hlim.1 hlim.2.1) (fun w1 => ?_)
  · have := rcheck_any (ratV q) w1 (by simp)
    rwa [chk_good (right_rat hq)] at this
  · have := size9_any (q.den : Int) w1 (by omega) hlim.2.2
    rwa [Int.natAbs_natCast] at this

theorem rfits_bad (x : Va) (t : Int) (w : World) (hs : x.str.length ≤ 9223372036854775807) (h : rightV x = false ∨ t < 1 ∨ 4 < t) :
    Calls Tryz.prog 61 #[x.v, .int .i64 t] w (RetV (.bool false) w) := by
  have C := fun w1 => rcheck_any x w1 hs
  have h' : chk x = 2 ∨ (chk x = 0 ∧ decide (t < 1) = true) ∨ (chk x = 0 ∧ decide (t < 1) = false ∧ decide (4 < t) = true) := by
    cases hr : rightV x with
    | false => exact .inl (chk_bad hr)
    | true =>
      by_cases h1 : t < 1
      · exact .inr (.inl ⟨chk_good hr, by simpa using h1⟩)
      · refine .inr (.inr ⟨chk_good hr, by simpa using h1, ?_⟩)
        rcases h with h | h | h
        · rw [hr] at h; cases h
        · exact absurd h h1
        · simpa using h
  clear h hs
  rcases h' with hr | ⟨hr, h1⟩ | ⟨hr, h1, h2⟩
  all_goals
    simp only [hr] at C
    have C := Lib.hid C
    rename_i C'
    clear C' hr
    go_enter Tryz.func61, Tryz.ntmps61
    go_wp2_with fail
    refine (C.out _).mono ?_
    rintro e w1 ⟨rfl, hb⟩
    obtain ⟨⟨c1, c2, c3, c4⟩, HB⟩ := BoxAt.past x hb
    clear C hb
    go_wp2
    go_ret
    exact ⟨rfl, HB⟩

set_option maxHeartbeats 800000 in
theorem rfits_good (x : Va) (t : Int) (w : World) (h : rightV x = true) (h1 : 1 ≤ t) (h2 : t ≤ 4) (hs : x.str.length ≤ 9223372036854775807) :
    Calls Tryz.prog 61 #[x.v, .int .i64 t] w (RetV (.bool (fitsV x t)) w) := by
  have C := fun w1 => rcheck_any x w1 hs
  have hf : fitsV x t = (if x.kind = 1 then decide (t = 1) else if x.kind = 2 then decide (t = 3 ∨ (t = 2 ∧ x.den = 1)) else if x.kind = 3 then decide (t = 4) else true) := by
    unfold fitsV
    have : decide (1 ≤ t ∧ t ≤ 4) = true := by simp [h1, h2]
    rw [h, this]; rfl
  rw [hf]
  have e1 : decide (t < 1) = false := by rw [decide_eq_false_iff_not]; omega
  have e2 : decide (4 < t) = false := by rw [decide_eq_false_iff_not]; omega
  have hk : x.kind = 0 ∨ x.kind = 1 ∨ x.kind = 2 ∨ x.kind = 3 := by
    rcases right_cases h with ⟨r, h1, h2, rfl⟩ | ⟨b, rfl⟩ | ⟨q, hq, rfl⟩ | ⟨s, h1, h2, rfl⟩
    · exact .inl rfl
    · exact .inr (.inl rfl)
    · exact .inr (.inr (.inl rfl))
    · exact .inr (.inr (.inr rfl))
  simp only [chk_good h] at C
  have C := Lib.hid C
  rename_i C'
  clear C'
  obtain ⟨k, n, d, s⟩ := x
  simp only at hk ⊢
  have HT : Hid (1 ≤ t ∧ t ≤ 4) := ⟨h1, h2⟩
  clear h hf h1 h2 hs
  rcases hk with rfl | rfl | rfl | rfl
  · go_enter Tryz.func61, Tryz.ntmps61
    go_wp2_with fail
    refine (C.out _).mono ?_
    rintro e w1 ⟨rfl, hb⟩
    obtain ⟨⟨c1, c2, c3, c4⟩, HB⟩ := BoxAt.past ⟨_, n, d, s⟩ hb
    clear C hb
    go_wp2
    all_goals
      go_ret
      exact ⟨ret_bool (by simp), HB⟩
  · go_enter Tryz.func61, Tryz.ntmps61
    go_wp2_with fail
    refine (C.out _).mono ?_
    rintro e w1 ⟨rfl, hb⟩
    obtain ⟨⟨c1, c2, c3, c4⟩, HB⟩ := BoxAt.past ⟨_, n, d, s⟩ hb
    clear C hb
    go_wp2
    all_goals
      go_ret
      exact ⟨ret_bool (by rw [Bool.eq_iff_iff]; simp), HB⟩
  · go_enter Tryz.func61, Tryz.ntmps61
    go_wp2_with fail
    refine (C.out _).mono ?_
    rintro e w1 ⟨rfl, hb⟩
    obtain ⟨⟨c1, c2, c3, c4⟩, HB⟩ := BoxAt.past ⟨_, n, d, s⟩ hb
    clear C hb
    go_wp2
    all_goals
      go_ret
      refine ⟨ret_bool ?_, HB⟩
      first
        | rfl
        | (rw [Bool.eq_iff_iff]; simp; done)
        | (simp_all; done)
  · go_enter Tryz.func61, Tryz.ntmps61
    go_wp2_with fail
    refine (C.out _).mono ?_
    rintro e w1 ⟨rfl, hb⟩
    obtain ⟨⟨c1, c2, c3, c4⟩, HB⟩ := BoxAt.past ⟨_, n, d, s⟩ hb
    clear C hb
    go_wp2
    all_goals
      go_ret
      exact ⟨ret_bool (by rw [Bool.eq_iff_iff]; simp), HB⟩

theorem rfits_any (x : Va) (t : Int) (w : World) (hs : x.str.length ≤ 9223372036854775807) :
    Calls Tryz.prog 61 #[x.v, .int .i64 t] w (RetV (.bool (fitsV x t)) w) := by
  by_cases h : rightV x = true ∧ 1 ≤ t ∧ t ≤ 4
  · exact rfits_good x t w h.1 h.2.1 h.2.2 hs
  · have hf : fitsV x t = false := by
      unfold fitsV
      by_cases h1 : rightV x = true
      · have : decide (1 ≤ t ∧ t ≤ 4) = false := by rw [decide_eq_false_iff_not]; exact fun h2 => h ⟨h1, h2⟩
        rw [this]; simp
      · have : rightV x = false := by simpa using h1
        rw [this]; rfl
    rw [hf]
    refine rfits_bad x t w hs ?_
    by_cases h1 : rightV x = true
    · right
      by_cases h2 : t < 1
      · exact .inl h2
      · exact .inr (by
          by_cases h3 : 4 < t
          · exact h3
          · exact absurd ⟨h1, by omega, by omega⟩ h)
    · left; simpa using h1
end Go.Proofs.YtemhidlaaommaaaGreatDoor
