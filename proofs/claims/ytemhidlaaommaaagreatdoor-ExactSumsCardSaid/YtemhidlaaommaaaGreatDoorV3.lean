/- Lemmas and contracts, each under its own condition: Contracts: Fits, order, Order. Contract: Print. -/
import Derived.Test.YtemhidlaaommaaaGreatDoorV1
import Derived.Test.YtemhidlaaommaaaGreatDoorV2
/- Contracts: Fits, order, Order. -/
namespace Go.Proofs.YtemhidlaaommaaaGreatDoor
open Go.RowKit

theorem FitQ.bd {q : Rat} (h : FitQ q) : Bd 41 q := ⟨Nat.lt_of_le_of_lt h.num (by decide), Nat.lt_of_le_of_lt h.den (by decide)⟩

theorem fits_bad (x : Va) (t : Int) (w : World) (h : rightV x = false ∨ t < 1 ∨ 4 < t) :
    Calls Tryz.prog 52 #[x.v, .int .i64 t] w fun e w' => e = .returned (.bool false) ∧ Below w.heap.size w w' := by
  have C := Lib.hid (fun w1 => right_any x w1)
  have h' : rightV x = false ∨ (rightV x = true ∧ decide (t < 1) = true) ∨ (rightV x = true ∧ decide (t < 1) = false ∧ decide (4 < t) = true) := by
    cases hr : rightV x with
    | false => exact .inl rfl
    | true =>
      by_cases h1 : t < 1
      · exact .inr (.inl ⟨rfl, by simpa using h1⟩)
      · refine .inr (.inr ⟨rfl, by simpa using h1, ?_⟩)
        rcases h with h | h | h
        · rw [hr] at h; cases h
        · exact absurd h h1
        · simpa using h
  clear h
  rcases h' with hr | ⟨hr, h1⟩ | ⟨hr, h1, h2⟩
  all_goals
    rw [hr] at C
    clear hr
    go_enter Tryz.func52, Tryz.ntmps52
    go_wp2_with fail
    refine (C.out _).mono ?_
    rintro e w1 ⟨rfl, hb⟩
    obtain ⟨⟨c1, c2, c3, c4⟩, HB⟩ := BoxAt.past x hb
    clear C hb
    go_wp2
    go_ret
    exact ⟨rfl, HB⟩

theorem fits_good (x : Va) (t : Int) (w : World) (h : rightV x = true) (h1 : 1 ≤ t) (h2 : t ≤ 4) :
    Calls Tryz.prog 52 #[x.v, .int .i64 t] w fun e w' => e = .returned (.bool (fitsV x t)) ∧ Below w.heap.size w w' := by
  have C := Lib.hid (fun w1 => right_any x w1)
  have hf : fitsV x t = (if x.kind = 1 then decide (t = 1) else if x.kind = 2 then decide (t = 3 ∨ (t = 2 ∧ x.den = 1)) else if x.kind = 3 then decide (t = 4) else true) := by
    unfold fitsV
    have : decide (1 ≤ t ∧ t ≤ 4) = true := by simp [h1, h2]
    rw [h, this]; rfl
  rw [hf]
  have e1 : decide (t < 1) = false := by rw [decide_eq_false_iff_not]; omega
  have e2 : decide (4 < t) = false := by rw [decide_eq_false_iff_not]; omega
  have hk : x.kind = 0 ∨ x.kind = 1 ∨ x.kind = 2 ∨ x.kind = 3 := by
    rcases right_cases h with ⟨r, h1, h2, rfl⟩ | ⟨b, rfl⟩ | ⟨q, hq, rfl⟩ | ⟨s, h1, h2, rfl⟩
    · exact .inl rfl
    · exact .inr (.inl rfl)
    · exact .inr (.inr (.inl rfl))
    · exact .inr (.inr (.inr rfl))
  rw [h] at C
  obtain ⟨k, n, d, s⟩ := x
  simp only at hk ⊢
  have HT : Hid (1 ≤ t ∧ t ≤ 4) := ⟨h1, h2⟩
  clear h hf h1 h2
  rcases hk with rfl | rfl | rfl | rfl
  · go_enter Tryz.func52, Tryz.ntmps52
    go_wp2_with fail
    refine (C.out _).mono ?_
    rintro e w1 ⟨rfl, hb⟩
    obtain ⟨⟨c1, c2, c3, c4⟩, HB⟩ := BoxAt.past ⟨_, n, d, s⟩ hb
    clear C hb
    go_wp2
    all_goals
      go_ret
      exact ⟨ret_bool (by simp), HB⟩
  · go_enter Tryz.func52, Tryz.ntmps52
    go_wp2_with fail
    refine (C.out _).mono ?_
    rintro e w1 ⟨rfl, hb⟩
    obtain ⟨⟨c1, c2, c3, c4⟩, HB⟩ := BoxAt.past ⟨_, n, d, s⟩ hb
    clear C hb
    go_wp2
    all_goals
      go_ret
      exact ⟨ret_bool (by rw [Bool.eq_iff_iff]; simp), HB⟩
  · go_enter Tryz.func52, Tryz.ntmps52
    go_wp2_with fail
    refine (C.out _).mono ?_
    rintro e w1 ⟨rfl, hb⟩
    obtain ⟨⟨c1, c2, c3, c4⟩, HB⟩ := BoxAt.past ⟨_, n, d, s⟩ hb
    clear C hb
    go_wp2
    all_goals
      go_ret
      refine ⟨ret_bool ?_, HB⟩
      first
        | rfl
        | (rw [Bool.eq_iff_iff]; simp; done)
        | (simp_all; done)
  · go_enter Tryz.func52, Tryz.ntmps52
    go_wp2_with fail
    refine (C.out _).mono ?_
    rintro e w1 ⟨rfl, hb⟩
    obtain ⟨⟨c1, c2, c3, c4⟩, HB⟩ := BoxAt.past ⟨_, n, d, s⟩ hb
    clear C hb
    go_wp2
    all_goals
      go_ret
      exact ⟨ret_bool (by rw [Bool.eq_iff_iff]; simp), HB⟩

theorem fits_any (x : Va) (t : Int) (w : World) :
    Calls Tryz.prog 52 #[x.v, .int .i64 t] w fun e w' => e = .returned (.bool (fitsV x t)) ∧ Below w.heap.size w w' := by
  by_cases h : rightV x = true ∧ 1 ≤ t ∧ t ≤ 4
  · exact fits_good x t w h.1 h.2.1 h.2.2
  · have hf : fitsV x t = false := by
      unfold fitsV
      by_cases h1 : rightV x = true
      · have : decide (1 ≤ t ∧ t ≤ 4) = false := by rw [decide_eq_false_iff_not]; exact fun h2 => h ⟨h1, h2⟩
        rw [this]; simp
      · have : rightV x = false := by simpa using h1
        rw [this]; rfl
    rw [hf]
    refine fits_bad x t w ?_
    by_cases h1 : rightV x = true
    · right
      by_cases h2 : t < 1
      · exact .inl h2
      · right
        refine Int.not_le.1 fun h3 => h ⟨h1, by omega, h3⟩
    · left; simpa using h1

theorem order_lt (x y : Va) (w : World) (h : sgnI x.kind y.kind ≠ 0) :
    Calls Tryz.prog 115 #[x.v, y.v] w fun e w' => e = .returned (.int .i64 (sgnI x.kind y.kind)) ∧ Below w.heap.size w w' := by
  have C := Lib.hid (fun w1 => signI_any x.kind y.kind w1)
  obtain ⟨S, hS⟩ : ∃ S, sgnI x.kind y.kind = S := ⟨_, rfl⟩
  rw [hS] at C h ⊢
  have hne : (S != 0) = true := by simpa using h
  clear h hS
  go_enter Tryz.func115, Tryz.ntmps115
  go_wp2_with (go_at_call 149; refine (C.out _).mono ?_; rintro e w1 ⟨rfl, rfl⟩; clear C)
  go_ret
  exact ⟨rfl, (below_alloc _ _).trans ((below_alloc _ _).mono (by simp))⟩

theorem sgnI_self (a : Int) : sgnI a a = 0 := by simp [sgnI]

theorem order_small (k n d m e : Int) (s t : List UInt8) (w : World) (h2 : k ≠ 2) (h3 : k ≠ 3) :
    Calls Tryz.prog 115 #[(Va.mk k n d s).v, (Va.mk k m e t).v] w fun e w' => e = .returned (.int .i64 (sgnI n m)) ∧ Below w.heap.size w w' := by
  have C := signI_any k k
  rw [sgnI_self] at C
  have C := Lib.hid C
  rename_i C'
  clear C'
  have C2 := Lib.hid (fun w1 => signL_any n m w1)
  have e2 : (k == 2) = false := by simpa using h2
  have e3 : (k == 3) = false := by simpa using h3
  clear h2 h3
  go_enter Tryz.func115, Tryz.ntmps115
  go_wp2_with (go_at_call 149; refine (C.out _).mono ?_; rintro e w1 ⟨rfl, rfl⟩; clear C)
  go_wp2_with (go_at_call 151; refine (C2.out _).mono ?_; rintro e w1 ⟨rfl, rfl⟩; clear C2)
  go_ret
  exact ⟨rfl, (below_alloc _ _).trans ((below_alloc _ _).mono (by simp))⟩

theorem order_text (n d m e : Int) (s t : List UInt8) (w : World) :
    Calls Tryz.prog 115 #[(Va.mk 3 n d s).v, (Va.mk 3 m e t).v] w fun e w' => e = .returned (.int .i64 (Lib.compareBytes s t)) ∧ Below w.heap.size w w' := by
  have C := signI_any 3 3
  rw [sgnI_self] at C
  have C := Lib.hid C
  rename_i C'
  clear C'
  have C2 := Lib.hid (fun w1 => Tryz.strings_Compare ⟨s.toArray⟩ ⟨t.toArray⟩ w1)
  go_enter Tryz.func115, Tryz.ntmps115
  go_wp2_with (go_at_call 149; refine (C.out _).mono ?_; rintro e w1 ⟨rfl, rfl⟩; clear C)
  go_wp2_with (go_at_call 150; refine (C2.out _).mono ?_; rintro e w1 ⟨rfl, rfl⟩; clear C2)
  go_ret
  exact ⟨rfl, (below_alloc _ _).trans ((below_alloc _ _).mono (by simp))⟩

theorem order_num (p q : Rat) (hp : FitQ p) (hq : FitQ q) (w : World) :
    Calls Tryz.prog 115 #[(ratV p).v, (ratV q).v] w (RetV (.int .i64 (sgnQ (p - q))) w) := by
  obtain ⟨N, hN⟩ : ∃ N, p.num = N := ⟨_, rfl⟩
  obtain ⟨D, hD⟩ : ∃ D : Int, (p.den : Int) = D := ⟨_, rfl⟩
  obtain ⟨M, hM⟩ : ∃ M, q.num = M := ⟨_, rfl⟩
  obtain ⟨E, hE⟩ : ∃ E : Int, (q.den : Int) = E := ⟨_, rfl⟩
  have C := signI_any 2 2
  rw [sgnI_self] at C
  have C := Lib.hid C
  have C1 : ∀ w1, Calls Tryz.prog 108 #[.agg #[.int .i64 2, .int .i64 N, .int .i64 D, .string ⟨#[]⟩]] w1 (RetR p w1) := by
    rw [← hN, ← hD]; exact fun w1 => number_any p hp w1
  have C2 : ∀ w1, Calls Tryz.prog 108 #[.agg #[.int .i64 2, .int .i64 M, .int .i64 E, .string ⟨#[]⟩]] w1 (RetR q w1) := by
    rw [← hM, ← hE]; exact fun w1 => number_any q hq w1
  have C1 := Lib.hid C1
  have C2 := Lib.hid C2
  have C3 := Lib.hid (fun (w1 : World) (x y : Value) (h1 : IsR w1 x p) (h2 : IsR w1 y q) => cmpR_any h1 h2 (hp.bd.smR (by decide)) (hq.bd.smR (by decide)) (hp.bd.smM hq.bd (by decide)))
  simp only [Va.v, hN, hD, hM, hE]
  obtain ⟨W, hW⟩ : ∃ W, W = (w.alloc (.cells #[.int .i64 2, .int .i64 N, .int .i64 D, .string ⟨#[]⟩] 45)).alloc (.cells #[.int .i64 2, .int .i64 M, .int .i64 E, .string ⟨#[]⟩] 45) := ⟨_, rfl⟩
  have hB : Below w.heap.size w W := by rw [hW]; exact (below_alloc _ _).trans ((below_alloc _ _).mono (by simp))
  have hlt : w.heap.size + 1 < W.heap.size := by rw [hW]; simp
  have hBox : BoxAt W w.heap.size ⟨2, N, D, []⟩ := by rw [hW]; exact (BoxAt.made ⟨2, N, D, []⟩ w _).later (below_alloc _ _) (by simp)
  have hBox2 : BoxAt W (w.heap.size + 1) ⟨2, M, E, []⟩ := by
    rw [hW]
    have := BoxAt.made ⟨2, M, E, []⟩ (w.alloc (.cells #[.int .i64 2, .int .i64 N, .int .i64 D, .string ⟨#[]⟩] 45)) 45
    simpa using this
  have K : ∀ w' : World, Below W.heap.size W w' → (w'.cell? ⟨w.heap.size, 0, none⟩ = some (.int .i64 2) ∧ w'.cell? ⟨w.heap.size, 1, none⟩ = some (.int .i64 N) ∧ w'.cell? ⟨w.heap.size, 2, none⟩ = some (.int .i64 D) ∧ w'.cell? ⟨w.heap.size, 3, none⟩ = some (.string ⟨#[]⟩) ∧ w'.cell? ⟨w.heap.size + 1, 0, none⟩ = some (.int .i64 2) ∧ w'.cell? ⟨w.heap.size + 1, 1, none⟩ = some (.int .i64 M) ∧ w'.cell? ⟨w.heap.size + 1, 2, none⟩ = some (.int .i64 E) ∧ w'.cell? ⟨w.heap.size + 1, 3, none⟩ = some (.string ⟨#[]⟩) ∧ Below W.heap.size W w') := fun w1 hb =>
    let b1 := hBox.later hb (by omega); let b2 := hBox2.later hb hlt
    ⟨b1.kind, b1.num, b1.den, b1.str, b2.kind, b2.num, b2.den, b2.str, hb⟩
  have HB := Lib.hid hB
  obtain ⟨k0, k1, k2, k3, k4, k5, k6, k7, -⟩ := K W (Below.refl _ _)
  have K := Lib.hid K
  rename_i C' C1' C2' K'
  clear C' C1' C2' K' hBox hBox2 hB hN hD hM hE
  have hbd : Below W.heap.size W W.drew := (Below.refl _ _).drew
  go_enter Tryz.func115, Tryz.ntmps115
  go_wp2_with fail
  rw [← hW]
  clear hW
  refine (C.out _).mono ?_
  rintro e w1 ⟨rfl, rfl⟩
  clear C
  go_wp2_with fail
  go_region_held3 (fun w' => w'.cell? ⟨w.heap.size, 0, none⟩ = some (.int .i64 2) ∧ w'.cell? ⟨w.heap.size, 1, none⟩ = some (.int .i64 N) ∧ w'.cell? ⟨w.heap.size, 2, none⟩ = some (.int .i64 D) ∧ w'.cell? ⟨w.heap.size, 3, none⟩ = some (.string ⟨#[]⟩) ∧ w'.cell? ⟨w.heap.size + 1, 0, none⟩ = some (.int .i64 2) ∧ w'.cell? ⟨w.heap.size + 1, 1, none⟩ = some (.int .i64 M) ∧ w'.cell? ⟨w.heap.size + 1, 2, none⟩ = some (.int .i64 E) ∧ w'.cell? ⟨w.heap.size + 1, 3, none⟩ = some (.string ⟨#[]⟩) ∧ Below W.heap.size W w')
    (first | exact K.out _ (by assumption) | exact K.out _ (Below.drew (Below.refl _ _)))
    (first
      | (go_at_call_of 108 (Value.agg #[.int .i64 2, .int .i64 N, .int .i64 D, .string ⟨#[]⟩]); refine (C1.out _).mono ?_; rintro e w2 ⟨v1, rfl, hv1, hb1⟩; have hB1 := below_keep hbd hb1)
      | (go_at_call_of 108 (Value.agg #[.int .i64 2, .int .i64 M, .int .i64 E, .string ⟨#[]⟩]); refine (C2.out _).mono ?_; rintro e w3 ⟨v2, rfl, hv2, hb2⟩; have hB2 := below_keep hB1 hb2)
      | (go_at_call 32; refine (C3.out _ _ _ (hv1.later hb2) hv2).mono ?_; rintro e w4 ⟨rfl, hb3⟩; have hB3 := below_keep hB2 hb3))
  go_wp2
  go_ret
  exact ⟨rfl, HB.out.trans (hB3.mono HB.out.size)⟩

theorem sgnI_ne {a b : Int} (h : a ≠ b) : sgnI a b ≠ 0 := by
  unfold sgnI
  split
  · decide
  split
  · decide
  · omega
theorem orderV_ne {x y : Va} (h : x.kind ≠ y.kind) : orderV x y = sgnI x.kind y.kind := by
  unfold orderV sgnI
  split
  · rfl
  split
  · rfl
  · omega
theorem order_any (x y : Va) (hx : rightV x = true) (hy : rightV y = true) (w : World) :
    Calls Tryz.prog 115 #[x.v, y.v] w fun e w' => e = .returned (.int .i64 (orderV x y)) ∧ Below w.heap.size w w' := by
  by_cases hk : x.kind = y.kind
  · rcases right_cases hx with ⟨r, h1, h2, rfl⟩ | ⟨b, rfl⟩ | ⟨q, hq, rfl⟩ | ⟨s, h1, h2, rfl⟩ <;>
    rcases right_cases hy with ⟨r', h1', h2', rfl⟩ | ⟨b', rfl⟩ | ⟨q', hq', rfl⟩ | ⟨s', h1', h2', rfl⟩ <;>
    first
      | (exfalso; revert hk; simp; done)
      | skip
    · exact order_small 0 r 0 r' 0 [] [] w (by decide) (by decide)
    · exact order_small 1 _ 0 _ 0 [] [] w (by decide) (by decide)
    · have e : orderV (ratV q) (ratV q') = sgnQ (q - q') := by
        show sgnQ (qOf (ratV q) - qOf (ratV q')) = _
        rw [qOf_ratV, qOf_ratV]
      rw [e]
      exact order_num q q' hq hq' w
    · exact order_text 0 0 0 0 s s' w
  · rw [orderV_ne hk]
    exact order_lt x y w (sgnI_ne hk)
/-- what Order gives -/
def ordE (x y : Va) : Int := if rightV x = true ∧ rightV y = true then orderV x y else 0
theorem Order_good (x y : Va) (hx : rightV x = true) (hy : rightV y = true) (w : World) :
    Calls Tryz.prog 62 #[x.v, y.v] w fun e w' => e = .returned (.int .i64 (orderV x y)) ∧ Below w.heap.size w w' := by
  have C1 := Lib.hid (fun w1 => right_any x w1)
  have C2 := Lib.hid (fun w1 => right_any y w1)
  rw [hx] at C1
  rw [hy] at C2
  have C3 := Lib.hid (fun w1 => order_any x y hx hy w1)
  obtain ⟨W, hW⟩ : ∃ W, W = (w.alloc (.cells #[.int .i64 x.kind, .int .i64 x.num, .int .i64 x.den, .string ⟨x.str.toArray⟩] 45)).alloc (.cells #[.int .i64 y.kind, .int .i64 y.num, .int .i64 y.den, .string ⟨y.str.toArray⟩] 45) := ⟨_, rfl⟩
  have hB : Below w.heap.size w W := by rw [hW]; exact (below_alloc _ _).trans ((below_alloc _ _).mono (by simp))
  have hlt : w.heap.size + 1 < W.heap.size := by rw [hW]; simp
  have hBox : BoxAt W w.heap.size x := by rw [hW]; exact (BoxAt.made x w _).later (below_alloc _ _) (by simp)
  have hBox2 : BoxAt W (w.heap.size + 1) y := by
    rw [hW]
    have := BoxAt.made y (w.alloc (.cells #[.int .i64 x.kind, .int .i64 x.num, .int .i64 x.den, .string ⟨x.str.toArray⟩] 45)) 45
    simpa using this
  have K := Lib.hid (fun (w1 : World) (hb : Below W.heap.size W w1) => (⟨hBox.later hb (by omega), hBox2.later hb hlt⟩ : BoxAt w1 w.heap.size x ∧ BoxAt w1 (w.heap.size + 1) y))
  have HB := Lib.hid hB
  obtain ⟨⟨a0, a1, a2, a3⟩, b0, b1, b2, b3⟩ := K.out W (Below.refl _ _)
  clear hBox hBox2 hB hx hy
  go_enter Tryz.func62, Tryz.ntmps62
  go_wp2_with fail
  rw [← hW]
  clear hW
  refine (C1.out _).mono ?_
  rintro e w1 ⟨rfl, hb1⟩
  obtain ⟨⟨a0, a1, a2, a3⟩, b0, b1, b2, b3⟩ := K.out w1 hb1
  go_wp2_with fail
  refine (C2.out _).mono ?_
  rintro e w2 ⟨rfl, hb2⟩
  have hB2 := below_keep hb1 hb2
  obtain ⟨⟨a0, a1, a2, a3⟩, b0, b1, b2, b3⟩ := K.out w2 hB2
  go_wp2_with fail
  refine (C3.out _).mono ?_
  rintro e w3 ⟨rfl, hb3⟩
  have hB3 := below_keep hB2 hb3
  clear C1 C2 C3 K
  go_wp2
  go_ret
  exact ⟨rfl, HB.out.trans (hB3.mono HB.out.size)⟩
theorem Order_bad1 (x y : Va) (hx : rightV x = false) (w : World) :
    Calls Tryz.prog 62 #[x.v, y.v] w fun e w' => e = .returned (.int .i64 0) ∧ Below w.heap.size w w' := by
  have C1 := Lib.hid (fun w1 => right_any x w1)
  rw [hx] at C1
  obtain ⟨W, hW⟩ : ∃ W, W = (w.alloc (.cells #[.int .i64 x.kind, .int .i64 x.num, .int .i64 x.den, .string ⟨x.str.toArray⟩] 45)).alloc (.cells #[.int .i64 y.kind, .int .i64 y.num, .int .i64 y.den, .string ⟨y.str.toArray⟩] 45) := ⟨_, rfl⟩
  have hB : Below w.heap.size w W := by rw [hW]; exact (below_alloc _ _).trans ((below_alloc _ _).mono (by simp))
  have HB := Lib.hid hB
  clear hB hx
  go_enter Tryz.func62, Tryz.ntmps62
  go_wp2_with fail
  rw [← hW]
  clear hW
  refine (C1.out _).mono ?_
  rintro e w1 ⟨rfl, hb1⟩
  go_wp2
  go_ret
  exact ⟨rfl, HB.out.trans (hb1.mono HB.out.size)⟩
theorem Order_bad2 (x y : Va) (hx : rightV x = true) (hy : rightV y = false) (w : World) :
    Calls Tryz.prog 62 #[x.v, y.v] w fun e w' => e = .returned (.int .i64 0) ∧ Below w.heap.size w w' := by
  have C1 := Lib.hid (fun w1 => right_any x w1)
  have C2 := Lib.hid (fun w1 => right_any y w1)
  rw [hx] at C1
  rw [hy] at C2
  obtain ⟨W, hW⟩ : ∃ W, W = (w.alloc (.cells #[.int .i64 x.kind, .int .i64 x.num, .int .i64 x.den, .string ⟨x.str.toArray⟩] 45)).alloc (.cells #[.int .i64 y.kind, .int .i64 y.num, .int .i64 y.den, .string ⟨y.str.toArray⟩] 45) := ⟨_, rfl⟩
  have hB : Below w.heap.size w W := by rw [hW]; exact (below_alloc _ _).trans ((below_alloc _ _).mono (by simp))
  have hlt : w.heap.size + 1 < W.heap.size := by rw [hW]; simp
  have hBox2 : BoxAt W (w.heap.size + 1) y := by
    rw [hW]
    have := BoxAt.made y (w.alloc (.cells #[.int .i64 x.kind, .int .i64 x.num, .int .i64 x.den, .string ⟨x.str.toArray⟩] 45)) 45
    simpa using this
  have K := Lib.hid (fun (w1 : World) (hb : Below W.heap.size W w1) => hBox2.later hb hlt)
  have HB := Lib.hid hB
  clear hBox2 hB hx hy
  go_enter Tryz.func62, Tryz.ntmps62
  go_wp2_with fail
  rw [← hW]
  clear hW
  refine (C1.out _).mono ?_
  rintro e w1 ⟨rfl, hb1⟩
  obtain ⟨b0, b1, b2, b3⟩ := K.out w1 hb1
  go_wp2_with fail
  refine (C2.out _).mono ?_
  rintro e w2 ⟨rfl, hb2⟩
  have hB2 := below_keep hb1 hb2
  clear C1 C2 K
  go_wp2
  go_ret
  exact ⟨rfl, HB.out.trans (hB2.mono HB.out.size)⟩
theorem Order_any (x y : Va) (w : World) :
    Calls Tryz.prog 62 #[x.v, y.v] w fun e w' => e = .returned (.int .i64 (ordE x y)) ∧ Below w.heap.size w w' := by
  unfold ordE
  by_cases hx : rightV x = true
  · by_cases hy : rightV y = true
    · rw [if_pos ⟨hx, hy⟩]; exact Order_good x y hx hy w
    · rw [if_neg (fun h => hy h.2)]; exact Order_bad2 x y hx (by simpa using hy) w
  · rw [if_neg (fun h => hx h.1)]; exact Order_bad1 x y (by simpa using hx) w
end Go.Proofs.YtemhidlaaommaaaGreatDoor
/- Contract: Print. -/
namespace Go.Proofs.YtemhidlaaommaaaGreatDoor
open Go.RowKit

theorem ret_str {l m : ByteArray} {k : Int} (h : l.data.toList = m.data.toList) : Ending.returned (.tuple #[.string l, .int .i64 k]) = .returned (.tuple #[.string m, .int .i64 k]) := by rw [bytes_eq h]

theorem print_bad (x : Va) (h : rightV x = false) (w : World) :
    Calls Tryz.prog 50 #[x.v] w fun e w' => e = .returned (.tuple #[str [], .int .i64 2]) ∧ Below w.heap.size w w' := by
  have C := Lib.hid (fun w1 => right_any x w1)
  rw [h] at C
  clear h
  go_enter Tryz.func50, Tryz.ntmps50
  go_wp2_with fail
  refine (C.out _).mono ?_
  rintro e w1 ⟨rfl, hb⟩
  obtain ⟨⟨c1, c2, c3, c4⟩, HB⟩ := BoxAt.past x hb
  clear C hb
  go_wp2
  go_ret2
  exact ⟨rfl, HB⟩

theorem print_0 (r : Int) (h1 : 1 ≤ r) (h2 : r ≤ 255) (w : World) :
    Calls Tryz.prog 50 #[(missV r).v] w fun e w' => e = .returned (.tuple #[str (63 :: dec r.natAbs), .int .i64 0]) ∧ Below w.heap.size w w' := by
  have C := Lib.hid (fun w1 => right_any (missV r) w1)
  rw [right_miss h1 h2] at C
  have C2 := Lib.hid (fun w1 => size_any r w1 (by omega) (by omega))
  have SM : Sm r.natAbs := Sm.i64 (n := r) (by omega) (by omega)
  have C3 := Lib.hid (fun (w1 : World) (v : Value) (hv : IsN B32 w1 v r.natAbs) => text_any hv SM)
  have L1 := SM.dec_len
  clear h1 h2 SM
  go_enter Tryz.func50, Tryz.ntmps50
  go_wp2_with fail
  refine (C.out _).mono ?_
  rintro e w1 ⟨rfl, hb⟩
  obtain ⟨⟨c1, c2, c3, c4⟩, HB⟩ := BoxAt.past (missV r) hb
  clear C hb
  go_wp2_with fail
  refine (C2.out _).mono ?_
  rintro e w2 ⟨v, rfl, hv, hb2⟩
  have HB2 := below_keep HB hb2
  obtain ⟨a1, n1, p1, hs1, -⟩ := hv.shape (by decide)
  subst hs1
  have C4 := Lib.hid (C3.out _ _ hv)
  clear C2 C3 hv
  go_wp2_with fail
  refine C4.out.mono ?_
  rintro e w3 ⟨rfl, hb3⟩
  have HB3 := below_keep HB2 hb3
  clear C4
  go_wp2
  go_ret2
  exact ⟨ret_str (by simp), HB3⟩

theorem print_1 (b : Bool) (w : World) :
    Calls Tryz.prog 50 #[(truthV b).v] w fun e w' => e = .returned (.tuple #[str (printV (truthV b)), .int .i64 0]) ∧ Below w.heap.size w w' := by
  have C := Lib.hid (fun w1 => right_any (truthV b) w1)
  rw [right_bool] at C
  cases b
  · go_enter Tryz.func50, Tryz.ntmps50
    go_wp2_with fail
    refine (C.out _).mono ?_
    rintro e w1 ⟨rfl, hb⟩
    obtain ⟨⟨c1, c2, c3, c4⟩, HB⟩ := BoxAt.past ⟨1, 0, 0, []⟩ hb
    clear C hb
    go_wp2
    go_ret2
    exact ⟨rfl, HB⟩
  · go_enter Tryz.func50, Tryz.ntmps50
    go_wp2_with fail
    refine (C.out _).mono ?_
    rintro e w1 ⟨rfl, hb⟩
    obtain ⟨⟨c1, c2, c3, c4⟩, HB⟩ := BoxAt.past ⟨1, 1, 0, []⟩ hb
    clear C hb
    go_wp2
    go_ret2
    exact ⟨rfl, HB⟩

theorem print_2 (q : Rat) (hq : FitQ q) (w : World) :
    Calls Tryz.prog 50 #[(ratV q).v] w fun e w' => e = .returned (.tuple #[str (ratS q), .int .i64 0]) ∧ Below w.heap.size w w' := by
  have C := Lib.hid (fun w1 => right_any (ratV q) w1)
  rw [right_rat hq] at C
  have C2 := Lib.hid (fun w1 => number_any q hq w1)
  have C3 := Lib.hid (fun (w1 : World) (v : Value) (hv : IsR w1 v q) => ratText_any hv (hq.bd.smR (by decide)))
  clear hq
  go_enter Tryz.func50, Tryz.ntmps50
  go_wp2_with fail
  refine (C.out _).mono ?_
  rintro e w1 ⟨rfl, hb⟩
  obtain ⟨⟨c1, c2, c3, c4⟩, HB⟩ := BoxAt.past (ratV q) hb
  clear C hb
  go_wp2_with fail
  refine (C2.out _).mono ?_
  rintro e w2 ⟨v, rfl, hv, hb2⟩
  have HB2 := below_keep HB hb2
  have C4 := Lib.hid (C3.out _ _ hv)
  obtain ⟨g, vn, vd, hvs, -⟩ := hv
  subst hvs
  clear C2 C3
  go_wp2_with fail
  refine C4.out.mono ?_
  rintro e w3 ⟨rfl, hb3⟩
  have HB3 := below_keep HB2 hb3
  clear C4
  go_wp2
  go_ret2
  exact ⟨rfl, HB3⟩

theorem print_3 (s : List UInt8) (h1 : s.length ≤ 16) (h2 : s.all okB = true) (w : World) (hm : Ml w) :
    Calls Tryz.prog 50 #[(textV s).v] w fun e w' => e = .returned (.tuple #[str (39 :: dbl s ++ [39]), .int .i64 0]) ∧ Below w.heap.size w w' := by
  have C := Lib.hid (fun w1 => right_any (textV s) w1)
  rw [right_text h1 h2] at C
  have C2 := Lib.hid (fun (w1 : World) (m : Int) (hm : w1.cell? ⟨0, 0, none⟩ = some (.int .i64 m)) => Tryz.strings_ReplaceAll ⟨s.toArray⟩ ⟨#[39]⟩ ⟨#[39, 39]⟩ m w1 (by simp [ByteArray.size]; omega) hm (by decide) (by
    have := Lib.countB_le ⟨#[39]⟩ (by decide) s.length ⟨s.toArray⟩ (by simp [ByteArray.size])
    have e : (ByteArray.mk #[39, 39]).size = 2 := rfl
    have e2 : (ByteArray.mk s.toArray).size = s.length := by simp [ByteArray.size]
    rw [e, e2]; rw [e2] at this; omega))
  have HD : Hid (Lib.replaceAll s [39] [39, 39] = dbl s) := ra_dbl s
  have L := dbl_len s
  have HMl := Lib.hid (fun w1 (hb : Below w.heap.size w w1) => hm.later hb)
  clear h2 hm
  go_enter Tryz.func50, Tryz.ntmps50
  go_wp2_with fail
  refine (C.out _).mono ?_
  rintro e w1 ⟨rfl, hb⟩
  obtain ⟨⟨c1, c2, c3, c4⟩, HB⟩ := BoxAt.past (textV s) hb
  clear C hb
  go_wp2_with fail
  obtain ⟨m, hm⟩ := HMl.out w1 HB
  have C3 := C2.out w1 m hm
  simp only [HD.out] at C3
  have C3 := Lib.hid C3
  rename_i C3'
  clear C3' C2 hm HMl
  refine C3.out.mono ?_
  rintro e w2 ⟨rfl, hb2⟩
  have HB2 := below_keep HB hb2
  clear C3 hb2
  go_wp2
  go_ret2
  exact ⟨ret_str (by simp), HB2⟩

/-- what Print gives -/
def printE (x : Va) : Value := .tuple #[str (if rightV x = true then printV x else []), .int .i64 (if rightV x = true then 0 else 2)]
theorem print_any (x : Va) (w : World) (hm : Ml w) :
    Calls Tryz.prog 50 #[x.v] w fun e w' => e = .returned (printE x) ∧ Below w.heap.size w w' := by
  unfold printE
  by_cases hx : rightV x = true
  · simp only [if_pos hx]
    rcases right_cases hx with ⟨r, h1, h2, rfl⟩ | ⟨b, rfl⟩ | ⟨q, hq, rfl⟩ | ⟨s, h1, h2, rfl⟩
    · exact print_0 r h1 h2 w
    · exact print_1 b w
    · rw [print_rat]; exact print_2 q hq w
    · exact print_3 s h1 h2 w hm
  · simp only [if_neg hx]
    exact print_bad x (by simpa using hx) w
end Go.Proofs.YtemhidlaaommaaaGreatDoor
