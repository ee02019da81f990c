/- Lemmas and contracts, each under its own condition: The reference's rational numbers, contracts: Mul, Quo, Add, Neg, Sub, Cmp. The reference's rational numbers, contracts: Neg, Sub, Cmp. The reference's values, contracts: Check, Fits, Number. The reference's values, contracts: Check of any value, Number, Fits. -/
import Derived.Deep.QuietTactic
import Derived.Deep.RegionHeld3
import Derived.Test.YtdbnebhehiiakaaGreatDoorG1
import Derived.Test.YtdbnebhehiiakaaGreatDoorV2
namespace Go.Proofs.YtdbnebhehiiakaaGreatDoor
open Go.RowKit
abbrev set9 (w : World) (g : Nat) (z0 z1 z2 : Value) : World := ((w.setCell ⟨g, 0, none⟩ z0).setCell ⟨g, 1, none⟩ z1).setCell ⟨g, 2, none⟩ z2
theorem Bx9.later {w w' : World} {g : Nat} {b : Bool} {vn vd : Value} {q : Rat} (h : Bx9 w g b vn vd q) (hb : Below w.heap.size w w') : Bx9 w' g b vn vd q :=
  have hg : g < w.heap.size := World.block_lt_of_cell? w ⟨g, 0, none⟩ h.neg
  ⟨(hb.cell (p := ⟨g, 0, none⟩) hg).trans h.neg, (hb.cell (p := ⟨g, 1, none⟩) hg).trans h.num, (hb.cell (p := ⟨g, 2, none⟩) hg).trans h.den, h.isNum.later hb, h.isDen.later hb⟩
theorem neg_num (q : Rat) : qnum (-q) = qnum q := by unfold qnum; rw [Rat.neg_num, Int.natAbs_neg]
theorem neg_den (q : Rat) : (-q).den = q.den := Rat.neg_den q
theorem Bd.neg {k : Nat} {q : Rat} (h : Bd k q) : Bd k (-q) := ⟨by rw [neg_num]; exact h.num, by rw [neg_den]; exact h.den⟩
theorem ret_i64 {a b : Int} (h : a = b) : Ending.returned (.int .i64 a) = .returned (.int .i64 b) := by rw [h]
def chk (x : Va) : Int := if rightV x = true then 0 else 2
set_option maxHeartbeats 1600000 in
theorem rcheck_0 (n d : Int) (s : List UInt8) (w : World) :
    Calls Tryz.prog 132 #[(Va.mk 0 n d s).v] w (RetV (.int .i64 (chk ⟨0, n, d, s⟩)) w) := by
  obtain ⟨z, hz⟩ : ∃ z, z = chk ⟨0, n, d, s⟩ := ⟨_, rfl⟩
  rw [← hz]
  have HZ := Lib.hid hz
  clear hz
  go_enter Tryz.func132, Tryz.ntmps132
  go_wp2
  all_goals
    go_ret
    refine ⟨ret_i64 ?_, below_alloc _ _⟩
    rw [HZ.out]
    simp [chk, rightV, *]
    try (rename_i h; simpa using h)
    try (intros; omega)
set_option maxHeartbeats 1600000 in
theorem rcheck_1 (n d : Int) (s : List UInt8) (w : World) :
    Calls Tryz.prog 132 #[(Va.mk 1 n d s).v] w (RetV (.int .i64 (chk ⟨1, n, d, s⟩)) w) := by
  obtain ⟨z, hz⟩ : ∃ z, z = chk ⟨1, n, d, s⟩ := ⟨_, rfl⟩
  rw [← hz]
  have HZ := Lib.hid hz
  clear hz
  go_enter Tryz.func132, Tryz.ntmps132
  go_wp2
  all_goals
    go_ret
    refine ⟨ret_i64 ?_, below_alloc _ _⟩
    rw [HZ.out]
    simp [chk, rightV, *]
    try (rename_i h; simpa using h)
    try (intros; omega)
theorem rcheck_other (x : Va) (w : World) (h0 : x.kind ≠ 0) (h1 : x.kind ≠ 1) (h2 : x.kind ≠ 2) (h3 : x.kind ≠ 3) :
    Calls Tryz.prog 132 #[x.v] w (RetV (.int .i64 (chk x)) w) := by
  have hz : chk x = 2 := by unfold chk rightV; simp [h0, h1, h2, h3]
  rw [hz]
  have e0 : (x.kind == 0) = false := by simpa using h0
  have e1 : (x.kind == 1) = false := by simpa using h1
  have e2 : (x.kind == 2) = false := by simpa using h2
  have e3 : (x.kind == 3) = false := by simpa using h3
  clear h0 h1 h2 h3 hz
  go_enter Tryz.func132, Tryz.ntmps132
  go_wp2
  go_ret
  exact ⟨rfl, below_alloc _ _⟩
set_option maxHeartbeats 1600000 in
set_option maxRecDepth 100000 in
theorem rcheck_2n (n d : Int) (s : List UInt8) (w : World) (h : ¬ (numOk n d ∧ s = [])) :
    Calls Tryz.prog 132 #[(Va.mk 2 n d s).v] w (RetV (.int .i64 2) w) := by
  have h' : (decide ((1 : Int) ≤ d) = false) ∨ (decide ((1 : Int) ≤ d) = true ∧ decide (d ≤ (1099511627776 : Int)) = false) ∨ (decide ((1 : Int) ≤ d) = true ∧ decide (d ≤ (1099511627776 : Int)) = true ∧ decide ((-1099511627776 : Int) ≤ n) = false) ∨
      (decide ((1 : Int) ≤ d) = true ∧ decide (d ≤ (1099511627776 : Int)) = true ∧ decide ((-1099511627776 : Int) ≤ n) = true ∧ decide (n ≤ (1099511627776 : Int)) = false) ∨
      (decide ((1 : Int) ≤ d) = true ∧ decide (d ≤ (1099511627776 : Int)) = true ∧ decide ((-1099511627776 : Int) ≤ n) = true ∧ decide (n ≤ (1099511627776 : Int)) = true ∧ s.isEmpty = false) := by
    simp only [decide_eq_true_eq, decide_eq_false_iff_not]
    by_cases k1 : 1 ≤ d
    · by_cases k2 : d ≤ 1099511627776
      · by_cases k3 : -1099511627776 ≤ n
        · by_cases k4 : n ≤ 1099511627776
          · right; right; right; right
            refine ⟨k1, k2, k3, k4, ?_⟩
            cases s with
            | nil => exact absurd ⟨⟨k1, k2, k3, k4⟩, rfl⟩ h
            | cons a t => rfl
          · right; right; right; left; exact ⟨k1, k2, k3, k4⟩
        · right; right; left; exact ⟨k1, k2, k3⟩
      · right; left; exact ⟨k1, k2⟩
    · left; exact k1
  clear h
  rcases h' with h1 | ⟨h1, h2⟩ | ⟨h1, h2, h3⟩ | ⟨h1, h2, h3, h4⟩ | ⟨h1, h2, h3, h4, h5⟩
  all_goals
    go_enter Tryz.func132, Tryz.ntmps132
    go_wp2
    go_quiet (fail)
    go_wp2
    go_ret
    first
      | exact ⟨rfl, below_alloc _ _⟩
      | exact ⟨rfl, (below_alloc w _).trans ((below_drewN' _ _).mono (by simp))⟩
theorem cmpN_one (x : Nat) : (cmpN x 1 == 0) = decide (x = 1) := by
  have := cmpN_ne x
  rw [bne, Bool.eq_iff_iff] at this
  rw [Bool.eq_iff_iff]
  simp at this ⊢
  omega
set_option maxHeartbeats 3200000 in
set_option maxRecDepth 100000 in
theorem rcheck_2 (n : Int) (d : Nat) (w : World) (h : numOk n d) :
    Calls Tryz.prog 132 #[(Va.mk 2 n d []).v] w (RetV (.int .i64 (if Nat.gcd n.natAbs d = 1 then 0 else 2)) w) := by
  obtain ⟨k1, k2, k3, k4⟩ := h
  have S1 := Lib.hid (fun w1 => size9_any n w1 (by omega) (by omega))
  have S2 : Hid (∀ w1, Calls Tryz.prog 131 #[.int .i64 (d : Int)] w1 (RetN B9 d w1)) := fun w1 => by
    have := size9_any (d : Int) w1 (by omega) (by omega)
    rwa [Int.natAbs_natCast] at this
  have N1 : Hid (∀ w1, Calls Tryz.prog 130 #[.int .u64 1] w1 (RetN B9 1 w1)) := fun w1 => natural_any 1 (by decide) w1
  have CG : Hid (∀ w1 x y, IsN B9 w1 x n.natAbs → IsN B9 w1 y d → Calls Tryz.prog 164 #[x, y] w1 (RetN B9 (Nat.gcd n.natAbs d) w1)) := fun w1 x y hx hy =>
    rcommon_any (M := 2 ^ 41) hx hy (by omega) (by omega) (sm_pow (by omega))
  obtain ⟨G, hG⟩ : ∃ G, G = Nat.gcd n.natAbs d := ⟨_, rfl⟩
  simp only [← hG] at CG ⊢
  have CC : Hid (∀ w1 x y, IsN B9 w1 x G → IsN B9 w1 y 1 → Calls Tryz.prog 129 #[x, y] w1 (RetQ (.int .i64 (cmpN G 1)) w1)) := fun w1 x y hx hy => rcmp_any hx hy
  have HZ : Hid ((if G = 1 then (0 : Int) else 2) = if (cmpN G 1 == 0) = true then 0 else 2) := by
    show _ = _
    rw [cmpN_one]; simp
  obtain ⟨c, hc⟩ : ∃ c, c = cmpN G 1 := ⟨_, rfl⟩
  rw [← hc] at CC HZ
  rw [HZ.out]
  obtain ⟨z, hz⟩ : ∃ z : Int, z = if (c == 0) = true then 0 else 2 := ⟨_, rfl⟩
  rw [← hz]
  have HZ := Lib.hid hz
  rename_i HZ'
  clear HZ' hz
  have hb0 := below_alloc w (.cells #[.int .i64 2, .int .i64 n, .int .i64 d, .string ⟨#[]⟩] 59)
  obtain ⟨W, hW⟩ : ∃ W, W = w.alloc (.cells #[.int .i64 2, .int .i64 n, .int .i64 d, .string ⟨#[]⟩] 59) := ⟨_, rfl⟩
  have KD : Hid (∀ w1, Below W.heap.size W w1 → w1.cell? ⟨w.heap.size, 1, none⟩ = some (.int .i64 n) ∧ w1.cell? ⟨w.heap.size, 2, none⟩ = some (.int .i64 d) ∧ w1.cell? ⟨w.heap.size, 3, none⟩ = some (.string ⟨#[]⟩) ∧ Below W.heap.size W w1) := fun w1 hb => by
    have hm := BoxAt.later (BoxAt.made ⟨2, n, d, []⟩ w 59) (w' := w1) (B := W.heap.size) (by rw [hW] at hb ⊢; exact hb) (by rw [hW]; simp)
    exact ⟨hm.num, hm.den, hm.str, hb⟩
  have HB : Hid (∀ w1, Below W.heap.size W w1 → Below w.heap.size w w1) := fun w1 hb => by
    have hb0' := hb0
    rw [← hW] at hb0'
    exact below_keep hb0' hb
  have hm0 := (BoxAt.made ⟨2, n, d, []⟩ w 59).kind
  rw [← hW] at hm0
  have HD0 := Lib.hid (Below.refl W.heap.size W).drew
  have hP0 := HD0.out
  clear hG hc hb0
  go_enter Tryz.func132, Tryz.ntmps132
  go_wp2_with fail
  rw [← hW]
  clear hW
  go_region_held3 (fun w' => w'.cell? ⟨w.heap.size, 1, none⟩ = some (.int .i64 n) ∧ w'.cell? ⟨w.heap.size, 2, none⟩ = some (.int .i64 d) ∧ w'.cell? ⟨w.heap.size, 3, none⟩ = some (.string ⟨#[]⟩) ∧ Below W.heap.size W w')
    (exact KD.out _ (by assumption))
    (first
      | (go_at_call_of 131 (Value.int .i64 n); refine (S1.out _).mono ?_; rintro e w1 ⟨v1, rfl, hv1, hb1⟩; have hP1 := below_keep hP0 hb1)
      | (go_at_call_of 131 (Value.int .i64 (d : Int)); refine (S2.out _).mono ?_; rintro e w2 ⟨v2, rfl, hv2, hb2⟩; have hP2 := below_keep hP1 hb2; have hv1' := hv1.later hb2)
      | (go_at_call 164; refine (CG.out _ _ _ hv1' hv2).mono ?_; rintro e w3 ⟨v3, rfl, hv3, hb3⟩; have hP3 := below_keep hP2 hb3)
      | (go_at_call 130; refine (N1.out _).mono ?_; rintro e w4 ⟨v4, rfl, hv4, hb4⟩; have hP4 := below_keep hP3 hb4; have hv3' := hv3.later hb4)
      | (go_at_call 129; refine (CC.out _ _ _ hv3' hv4).mono ?_; rintro e w5 ⟨rfl, kq, rfl⟩; have hP5 := below_keep hP4 (below_drewN' _ kq)))
  have HF := Lib.hid (HB.out _ hP5)
  clear hP0 hP1 hP2 hP3 hP4 hP5 hb1 hb2 hb3 hb4 hv1 hv2 hv3 hv4 hv1' hv3'
  cases hcc : (c == 0) with
  | true =>
    go_wp2
    go_ret
    exact ⟨ret_i64 (by rw [HZ.out, hcc]; rfl), HF.out⟩
  | false =>
    go_wp2
    go_ret
    exact ⟨ret_i64 (by rw [HZ.out, hcc]; rfl), HF.out⟩
set_option maxHeartbeats 1600000 in
set_option maxRecDepth 100000 in
theorem rcheck_3 (n d : Int) (s : List UInt8) (w : World) (hs : s.length ≤ 9223372036854775807) :
    Calls Tryz.prog 132 #[(Va.mk 3 n d s).v] w (RetV (.int .i64 (chk ⟨3, n, d, s⟩)) w) := by
  obtain ⟨p, hp⟩ : ∃ p, p = decide (n = 0 ∧ d = 0 ∧ s.length ≤ 16) := ⟨_, rfl⟩
  have HZ : Hid (chk ⟨3, n, d, s⟩ = if (p && s.all okB) = true then 0 else 2) := by
    show _ = _
    rw [hp]
    simp [chk, rightV, and_assoc]
  rw [HZ.out]
  clear HZ
  obtain ⟨z, hz⟩ : ∃ z : Int, z = if (p && s.all okB) = true then 0 else 2 := ⟨_, rfl⟩
  rw [← hz]
  have HZ := Lib.hid hz
  clear hz
  have HB := Lib.hid (below_alloc w (.cells #[.int .i64 3, .int .i64 n, .int .i64 d, .string ⟨s.toArray⟩] 59))
  have h' : (((n == 0) = false) ∧ p = false) ∨ ((n == 0) = true ∧ (d == 0) = false ∧ p = false) ∨ ((n == 0) = true ∧ (d == 0) = true ∧ decide ((s.length : Int) ≤ 16) = p) := by
    by_cases h1 : n = 0
    · by_cases h2 : d = 0
      · right; right; subst h1 h2; refine ⟨rfl, rfl, ?_⟩; rw [hp]; simp; omega
      · right; left; refine ⟨by simpa using h1, by simpa using h2, ?_⟩; rw [hp]; simp [h2]
    · left; refine ⟨by simpa using h1, ?_⟩; rw [hp]; simp [h1]
  clear hp
  rcases h' with ⟨h1, rfl⟩ | ⟨h1, h2, rfl⟩ | ⟨h1, h2, h3⟩
  all_goals
    go_enter Tryz.func132, Tryz.ntmps132
    go_wp2
  iterate 2
    · go_loop [3, 4] (fun isv iv => ∃ k : Nat, k ≤ s.length ∧ iv = .int .i64 (k : Nat) ∧ isv = .bool false) (fun _ iv => s.length - (intOf iv).toNat)
      case atStart => exact ⟨0, Nat.zero_le _, rfl, rfl⟩
      case round =>
        obtain ⟨k, hk, rfl, rfl⟩ := hrel
        by_cases hlt : k < s.length
        · go_wp2
          exact ⟨⟨k + 1, by omega, rfl, rfl⟩, by show s.length - (k + 1) < s.length - k; omega⟩
        · obtain rfl : k = s.length := by omega
          go_wp2
          go_ret
          exact ⟨ret_i64 (by rw [HZ.out]; rfl), HB.out⟩
  · go_loop [3, 4] (fun isv iv => ∃ (k : Nat) (b : Bool), k ≤ s.length ∧ iv = .int .i64 (k : Nat) ∧ isv = .bool b ∧ Hid (b = (p && (s.take k).all okB))) (fun _ iv => s.length - (intOf iv).toNat)
    case atStart => exact ⟨0, p, Nat.zero_le _, rfl, rfl, by show p = (p && _); simp⟩
    case round =>
      obtain ⟨k, b, hk, rfl, rfl, hb⟩ := hrel
      by_cases hlt : k < s.length
      · cases b with
        | false =>
          have hst : Hid (false = (p && (s.take (k + 1)).all okB)) := by
            show _ = _
            have := hb.out
            rw [List.take_add_one, List.all_append, ← Bool.and_assoc, ← this]; rfl
          go_wp2
          exact ⟨⟨k + 1, false, by omega, rfl, rfl, hst⟩, by show s.length - (k + 1) < s.length - k; omega⟩
        | true =>
          go_wp2
          all_goals
            rename_i h9
            refine ⟨⟨k + 1, _, by omega, rfl, rfl, ?_⟩, by show s.length - (k + 1) < s.length - k; omega⟩
            show _ = _
            have hb' := hb.out
            rw [List.take_add_one, List.all_append, ← Bool.and_assoc, ← hb', Bool.true_and, List.getElem?_eq_getElem hlt]
            simp only [Option.toList_some, List.all_cons, List.all_nil, Bool.and_true]
            unfold okB
            rw [Bool.eq_iff_iff]
            first
              | (change (32 : Int) ≤ (s[k].toNat : Int) at h9
                 show decide ((s[k].toNat : Int) ≤ 126) = true ↔ _
                 simp only [decide_eq_true_eq]; omega)
              | (change ¬ (32 : Int) ≤ (s[k].toNat : Int) at h9
                 simp only [decide_eq_true_eq]
                 constructor
                 · intro h; cases h
                 · intro h; exfalso; omega)
      · obtain rfl : k = s.length := by omega
        cases b with
        | false =>
          go_wp2
          go_ret
          exact ⟨ret_i64 (by have := hb.out; rw [List.take_length] at this; rw [HZ.out, ← this]; rfl), HB.out⟩
        | true =>
          go_wp2
          go_ret
          exact ⟨ret_i64 (by have := hb.out; rw [List.take_length] at this; rw [HZ.out, ← this]; rfl), HB.out⟩
theorem chk_good {x : Va} (h : rightV x = true) : chk x = 0 := by unfold chk; rw [if_pos h]
theorem chk_bad {x : Va} (h : rightV x = false) : chk x = 2 := by unfold chk; rw [if_neg (by rw [h]; decide)]
theorem rcheck_any (x : Va) (w : World) (hs : x.str.length ≤ 9223372036854775807) :
    Calls Tryz.prog 132 #[x.v] w (RetV (.int .i64 (chk x)) w) := by
  by_cases h0 : x.kind = 0
  · obtain ⟨k, n, d, s⟩ := x; obtain rfl : k = 0 := h0; exact rcheck_0 n d s w
  by_cases h1 : x.kind = 1
  · obtain ⟨k, n, d, s⟩ := x; obtain rfl : k = 1 := h1; exact rcheck_1 n d s w
  by_cases h3 : x.kind = 3
  · obtain ⟨k, n, d, s⟩ := x; obtain rfl : k = 3 := h3; exact rcheck_3 n d s w hs
  by_cases h2 : x.kind = 2
  · obtain ⟨k, n, d, s⟩ := x
    obtain rfl : k = 2 := h2
    by_cases h : numOk n d ∧ s = []
    · obtain ⟨h, rfl⟩ := h
      obtain ⟨e, rfl⟩ : ∃ e : Nat, d = e := ⟨d.toNat, by unfold numOk at h; omega⟩
      have e1 : chk ⟨2, n, e, []⟩ = if Nat.gcd n.natAbs e = 1 then 0 else 2 := by
        have hr : rightV ⟨2, n, e, []⟩ = decide (Nat.gcd n.natAbs e = 1) := by
          show decide (_ ∧ _) = _
          rw [Bool.eq_iff_iff, decide_eq_true_eq, decide_eq_true_eq, Int.natAbs_natCast]
          exact ⟨fun h => h.2.2.2.2.2, fun h' => ⟨rfl, h.1, h.2.1, h.2.2.1, h.2.2.2, h'⟩⟩
        unfold chk
        rw [hr]; simp
      rw [e1]; exact rcheck_2 n e w h
    · have e1 : chk ⟨2, n, d, s⟩ = 2 := by
        apply chk_bad
        show decide (_ ∧ _) = _
        rw [decide_eq_false_iff_not]
        exact fun h' => h ⟨⟨h'.2.1, h'.2.2.1, h'.2.2.2.1, h'.2.2.2.2.1⟩, h'.1⟩
      rw [e1]; exact rcheck_2n n d s w h
  · exact rcheck_other x w h0 h1 h2 h3
theorem boxVR (x : Va) (w : World) : ∃ P Q : World → Prop, P ((w.alloc (.cells #[.int .i64 x.kind, .int .i64 x.num, .int .i64 x.den, .string ⟨x.str.toArray⟩] 59)).alloc (.cells #[.bool false, .slice none 0 0, .slice none 0 0] 136)) ∧
    Hid (∀ w1 w2, P w1 → Below w1.heap.size w1 w2 → P w2) ∧ Hid (∀ w1, P w1 → P w1.drew) ∧ Hid (∀ w1, P w1 → Q w1) ∧ Hid (∀ w1, P w1 → Res9 w1 (w.heap.size + 1)) ∧
    Hid (∀ w1 z0 z1 z2, Q w1 → Q (set9 w1 (w.heap.size + 1) z0 z1 z2)) ∧ Hid (∀ w1, Q w1 → BoxAt w1 w.heap.size x ∧ Below w.heap.size w w1) := by
  obtain ⟨w2, hw2⟩ : ∃ w2, w2 = w.alloc (.cells #[.int .i64 x.kind, .int .i64 x.num, .int .i64 x.den, .string ⟨x.str.toArray⟩] 59) := ⟨_, rfl⟩
  have hsz : w2.heap.size = w.heap.size + 1 := by rw [hw2]; simp
  have hb2 : Below w.heap.size w w2 := by rw [hw2]; exact below_alloc _ _
  have x1 : BoxAt w2 w.heap.size x := by rw [hw2]; exact BoxAt.made x w _
  rw [← hw2]
  have hr := Res9.made w2 136
  rw [hsz] at hr
  have hb3 := below_alloc w2 (.cells #[.bool false, .slice none 0 0, .slice none 0 0] 136)
  refine ⟨fun w1 => Below w2.heap.size w2 w1 ∧ Res9 w1 (w.heap.size + 1), fun w1 => Below w2.heap.size w2 w1, ⟨hb3, hr⟩, fun w1 w' h h' => ⟨below_keep h.1 h', h.2.later h' (World.block_lt_of_cell? _ _ h.2.c0)⟩, fun w1 h => ⟨h.1.drew, ⟨h.2.c0, h.2.c1, h.2.c2, h.2.f0, h.2.f1, h.2.f2⟩⟩, fun w1 h => h.1, fun w1 h => h.2, fun w1 z0 z1 z2 h => ?_, fun w1 h => ⟨x1.later h (by rw [hsz]; omega), below_keep hb2 h⟩⟩
  exact ((h.setCell (by rw [hsz]; exact Nat.le_refl _) _).setCell (by rw [hsz]; exact Nat.le_refl _) _).setCell (by rw [hsz]; exact Nat.le_refl _) _
set_option maxHeartbeats 1600000 in
set_option maxRecDepth 100000 in
theorem rnumber_core (q : Rat) (b : Bool) (N D : Int) (w : World) (hE : decide (N < 0) = b) (hb : b = qneg q)
    (CC : ∀ w1, Calls Tryz.prog 132 #[(Va.mk 2 N D []).v] w1 (RetV (.int .i64 0) w1))
    (C1 : ∀ w1, Calls Tryz.prog 131 #[.int .i64 N] w1 (RetN B9 (qnum q) w1)) (C2 : ∀ w1, Calls Tryz.prog 131 #[.int .i64 D] w1 (RetN B9 q.den w1)) :
    Calls Tryz.prog 133 #[(Va.mk 2 N D []).v] w fun e w' => ∃ v, e = .returned (.tuple #[v, .bool true]) ∧ Q9 w' v q ∧ Below w.heap.size w w' := by
  obtain ⟨P, Q, p0, PK, PD, PQ, PR, QS, QG⟩ := boxVR ⟨2, N, D, []⟩ w
  have KD := Lib.hid (fun (w1 : World) (h : Q w1) => And.intro (QG.out _ h).1.num (And.intro (QG.out _ h).1.den h))
  have CC := Lib.hid CC
  have C1 := Lib.hid C1
  have C2 := Lib.hid C2
  rename_i CC' C1' C2'
  clear CC' C1' C2'
  have P0 := Lib.hid p0
  have HB := Lib.hid hb
  clear p0 hb
  go_enter Tryz.func133, Tryz.ntmps133
  go_wp2_with fail
  refine (CC.out _).mono ?_
  rintro e w1 ⟨rfl, hb1⟩
  have P1 := Lib.hid (PK.out _ _ P0.out hb1)
  obtain ⟨⟨k0, k1, k2, k3⟩, -⟩ := QG.out _ (PQ.out _ P1.out)
  have hP := PD.out _ P1.out
  clear hb1 CC P0
  go_wp2_with fail
  go_region_held3 (fun w' => w'.cell? ⟨w.heap.size, 1, none⟩ = some (.int .i64 N) ∧ w'.cell? ⟨w.heap.size, 2, none⟩ = some (.int .i64 D) ∧ Q w')
    (first | exact KD.out _ (PQ.out _ (by assumption)) | exact KD.out _ (QS.out _ _ _ _ (PQ.out _ (by assumption))))
    (first
      | (go_at_call_of 131 (Value.int .i64 N); refine (C1.out _).mono ?_; rintro e w2 ⟨v1, rfl, hv1, hb1⟩; have hP1 := PK.out _ _ hP hb1)
      | (go_at_call_of 131 (Value.int .i64 D); refine (C2.out _).mono ?_; rintro e w3 ⟨v2, rfl, hv2, hb2⟩; obtain ⟨a1, n1, c1, rfl, -⟩ := hv1.shape (by decide); obtain ⟨a2, n2, c2, rfl, -⟩ := hv2.shape (by decide); have hP2 := PK.out _ _ hP1 hb2; obtain ⟨r0, r1, r2, f0, f1, f2⟩ := PR.out _ hP2))
  have HR := Lib.hid (PR.out _ hP2)
  have HN := Lib.hid (hv1.later hb2)
  have HD := Lib.hid hv2
  have HW := Lib.hid (QG.out _ (PQ.out _ hP2)).2
  clear hP hP1 hP2 hb1 hb2 hv1 hv2
  go_wp2
  refine bodyPost_ret (by simp [results, Tryz.results133, go_sem, r0, r1, r2]; try rfl) rfl ?_
  exact ⟨_, rfl, ⟨_, _, by rw [HB.out], HR.out.set3 HN.out _ _ _, HR.out.set3 HD.out _ _ _⟩, below_set3' HW.out (by omega)⟩
theorem rnumber_good (q : Rat) (hq : FitQ q) (w : World) :
    Calls Tryz.prog 133 #[(ratV q).v] w fun e w' => ∃ v, e = .returned (.tuple #[v, .bool true]) ∧ Q9 w' v q ∧ Below w.heap.size w w' := by
  have hlim : -9223372036854775808 ≤ q.num ∧ q.num ≤ 9223372036854775807 ∧ (q.den : Int) ≤ 9223372036854775807 := by
    have := hq.num; have := hq.den; unfold qnum T40 at *; omega
  refine rnumber_core q (qneg q) q.num q.den w rfl rfl (fun w1 => ?_) (fun w1 => size9_any q.num w1 hlim.1 hlim.2.1) (fun w1 => ?_)
  · have := rcheck_any (ratV q) w1 (by simp)
    rwa [chk_good (right_rat hq)] at this
  · have := size9_any (q.den : Int) w1 (by omega) hlim.2.2
    rwa [Int.natAbs_natCast] at this
theorem rfits_bad (x : Va) (t : Int) (w : World) (hs : x.str.length ≤ 9223372036854775807) (h : rightV x = false ∨ t < 1 ∨ 4 < t) :
    Calls Tryz.prog 127 #[x.v, .int .i64 t] w (RetV (.bool false) w) := by
  have C := fun w1 => rcheck_any x w1 hs
  have h' : chk x = 2 ∨ (chk x = 0 ∧ decide (t < 1) = true) ∨ (chk x = 0 ∧ decide (t < 1) = false ∧ decide (4 < t) = true) := by
    cases hr : rightV x with
    | false => exact .inl (chk_bad hr)
    | true =>
      by_cases h1 : t < 1
      · exact .inr (.inl ⟨chk_good hr, by simpa using h1⟩)
      · refine .inr (.inr ⟨chk_good hr, by simpa using h1, ?_⟩)
        rcases h with h | h | h
        · rw [hr] at h; cases h
        · exact absurd h h1
        · simpa using h
  clear h hs
  rcases h' with hr | ⟨hr, h1⟩ | ⟨hr, h1, h2⟩
  all_goals
    simp only [hr] at C
    have C := Lib.hid C
    rename_i C'
    clear C' hr
    go_enter Tryz.func127, Tryz.ntmps127
    go_wp2_with fail
    refine (C.out _).mono ?_
    rintro e w1 ⟨rfl, hb⟩
    obtain ⟨⟨c1, c2, c3, c4⟩, HB⟩ := BoxAt.past x hb
    clear C hb
    go_wp2
    go_ret
    exact ⟨rfl, HB⟩
set_option maxHeartbeats 800000 in
theorem rfits_good (x : Va) (t : Int) (w : World) (h : rightV x = true) (h1 : 1 ≤ t) (h2 : t ≤ 4) (hs : x.str.length ≤ 9223372036854775807) :
    Calls Tryz.prog 127 #[x.v, .int .i64 t] w (RetV (.bool (fitsV x t)) w) := by
  have C := fun w1 => rcheck_any x w1 hs
  have hf : fitsV x t = (if x.kind = 1 then decide (t = 1) else if x.kind = 2 then decide (t = 3 ∨ (t = 2 ∧ x.den = 1)) else if x.kind = 3 then decide (t = 4) else true) := by
    unfold fitsV
    have : decide (1 ≤ t ∧ t ≤ 4) = true := by simp [h1, h2]
    rw [h, this]; rfl
  rw [hf]
  have e1 : decide (t < 1) = false := by rw [decide_eq_false_iff_not]; omega
  have e2 : decide (4 < t) = false := by rw [decide_eq_false_iff_not]; omega
  have hk : x.kind = 0 ∨ x.kind = 1 ∨ x.kind = 2 ∨ x.kind = 3 := by
    rcases right_cases h with ⟨r, h1, h2, rfl⟩ | ⟨b, rfl⟩ | ⟨q, hq, rfl⟩ | ⟨s, h1, h2, rfl⟩
    · exact .inl rfl
    · exact .inr (.inl rfl)
    · exact .inr (.inr (.inl rfl))
    · exact .inr (.inr (.inr rfl))
  simp only [chk_good h] at C
  have C := Lib.hid C
  rename_i C'
  clear C'
  obtain ⟨k, n, d, s⟩ := x
  simp only at hk ⊢
  have HT : Hid (1 ≤ t ∧ t ≤ 4) := ⟨h1, h2⟩
  clear h hf h1 h2 hs
  rcases hk with rfl | rfl | rfl | rfl
  · go_enter Tryz.func127, Tryz.ntmps127
    go_wp2_with fail
    refine (C.out _).mono ?_
    rintro e w1 ⟨rfl, hb⟩
    obtain ⟨⟨c1, c2, c3, c4⟩, HB⟩ := BoxAt.past ⟨_, n, d, s⟩ hb
    clear C hb
    go_wp2
    all_goals
      go_ret
      exact ⟨ret_bool (by simp), HB⟩
  · go_enter Tryz.func127, Tryz.ntmps127
    go_wp2_with fail
    refine (C.out _).mono ?_
    rintro e w1 ⟨rfl, hb⟩
    obtain ⟨⟨c1, c2, c3, c4⟩, HB⟩ := BoxAt.past ⟨_, n, d, s⟩ hb
    clear C hb
    go_wp2
    all_goals
      go_ret
      exact ⟨ret_bool (by rw [Bool.eq_iff_iff]; simp), HB⟩
  · go_enter Tryz.func127, Tryz.ntmps127
    go_wp2_with fail
    refine (C.out _).mono ?_
    rintro e w1 ⟨rfl, hb⟩
    obtain ⟨⟨c1, c2, c3, c4⟩, HB⟩ := BoxAt.past ⟨_, n, d, s⟩ hb
    clear C hb
    go_wp2
    all_goals
      go_ret
      refine ⟨ret_bool ?_, HB⟩
      first
        | rfl
        | (rw [Bool.eq_iff_iff]; simp; done)
        | (simp_all; done)
  · go_enter Tryz.func127, Tryz.ntmps127
    go_wp2_with fail
    refine (C.out _).mono ?_
    rintro e w1 ⟨rfl, hb⟩
    obtain ⟨⟨c1, c2, c3, c4⟩, HB⟩ := BoxAt.past ⟨_, n, d, s⟩ hb
    clear C hb
    go_wp2
    all_goals
      go_ret
      exact ⟨ret_bool (by rw [Bool.eq_iff_iff]; simp), HB⟩
theorem rfits_any (x : Va) (t : Int) (w : World) (hs : x.str.length ≤ 9223372036854775807) :
    Calls Tryz.prog 127 #[x.v, .int .i64 t] w (RetV (.bool (fitsV x t)) w) := by
  by_cases h : rightV x = true ∧ 1 ≤ t ∧ t ≤ 4
  · exact rfits_good x t w h.1 h.2.1 h.2.2 hs
  · have hf : fitsV x t = false := by
      unfold fitsV
      by_cases h1 : rightV x = true
      · have : decide (1 ≤ t ∧ t ≤ 4) = false := by rw [decide_eq_false_iff_not]; exact fun h2 => h ⟨h1, h2⟩
        rw [this]; simp
      · have : rightV x = false := by simpa using h1
        rw [this]; rfl
    rw [hf]
    refine rfits_bad x t w hs ?_
    by_cases h1 : rightV x = true
    · right
      by_cases h2 : t < 1
      · exact .inl h2
      · exact .inr (by
          by_cases h3 : 4 < t
          · exact h3
          · exact absurd ⟨h1, by omega, by omega⟩ h)
    · left; simpa using h1
end Go.Proofs.YtdbnebhehiiakaaGreatDoor
