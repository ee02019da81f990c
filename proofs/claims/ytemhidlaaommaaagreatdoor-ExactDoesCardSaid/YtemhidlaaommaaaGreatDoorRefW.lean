/- The reference's values, contract: Order. -/
import Derived.WalkLawsBesides
import Derived.BigQuiet
import Derived.Test.YtemhidlaaommaaaGreatDoorRefV
namespace Go.Proofs.YtemhidlaaommaaaGreatDoor
open Go.RowKit

/-- two values in boxes, as a letter -/
theorem boxVV (x y : Va) (w : World) : ∃ P : World → Prop, P ((w.alloc (.cells #[.int .i64 x.kind, .int .i64 x.num, .int .i64 x.den, .string ⟨x.str.toArray⟩] 45)).alloc (.cells #[.int .i64 y.kind, .int .i64 y.num, .int .i64 y.den, .string ⟨y.str.toArray⟩] 45)) ∧
    Hid (∀ w1 w2, P w1 → Below w1.heap.size w1 w2 → P w2) ∧ Hid (∀ w1, P w1 → P w1.drew) ∧ Hid (∀ w1, P w1 → BoxAt w1 w.heap.size x ∧ BoxAt w1 (w.heap.size + 1) y ∧ Below w.heap.size w w1) := by
  obtain ⟨w2, hw2⟩ : ∃ w2, w2 = w.alloc (.cells #[.int .i64 x.kind, .int .i64 x.num, .int .i64 x.den, .string ⟨x.str.toArray⟩] 45) := ⟨_, rfl⟩
  have hsz : w2.heap.size = w.heap.size + 1 := by rw [hw2]; simp
  have hb2 : Below w.heap.size w w2 := by rw [hw2]; exact below_alloc _ _
  have x1 : BoxAt w2 w.heap.size x := by rw [hw2]; exact BoxAt.made x w _
  rw [← hw2]
  have y1 := BoxAt.made y w2 45
  rw [hsz] at y1
  obtain ⟨w3, hw3⟩ : ∃ w3, w3 = w2.alloc (.cells #[.int .i64 y.kind, .int .i64 y.num, .int .i64 y.den, .string ⟨y.str.toArray⟩] 45) := ⟨_, rfl⟩
  rw [← hw3] at y1 ⊢
  have hsz3 : w3.heap.size = w.heap.size + 1 + 1 := by rw [hw3]; simp [hsz]
  have hb3 : Below w2.heap.size w2 w3 := by rw [hw3]; exact below_alloc _ _
  exact ⟨fun w1 => Below w3.heap.size w3 w1, Below.refl _ _, fun w1 w' h h' => below_keep h h', fun w1 h => h.drew,
    fun w1 h => ⟨(x1.later hb3 (by rw [hsz]; omega)).later h (by rw [hsz3]; omega), y1.later h (by rw [hsz3]; omega), below_keep (below_keep hb2 hb3) h⟩⟩

theorem less_cmp : ∀ s t : List UInt8, Op.bytesLess s t = decide (Lib.compareBytes s t < 0)
  | [], [] => rfl
  | [], _ :: _ => rfl
  | _ :: _, [] => rfl
  | a :: x, b :: y => by
    rw [Op.bytesLess, Lib.compareBytes, less_cmp x y]
    by_cases h1 : a < b
    · simp [h1]
    · by_cases h2 : b < a
      · have h3 : (a == b) = false := by rw [beq_eq_false_iff_ne]; rintro rfl; exact h1 h2
        simp [h1, h2, h3]
      · have h3 : a = b := UInt8.le_antisymm (UInt8.not_lt.1 h2) (UInt8.not_lt.1 h1)
        simp [h3]
theorem eq_cmp : ∀ s t : List UInt8, (s == t) = decide (Lib.compareBytes s t = 0)
  | [], [] => rfl
  | [], _ :: _ => by simp [Lib.compareBytes]
  | _ :: _, [] => by simp [Lib.compareBytes]
  | a :: x, b :: y => by
    have ih := eq_cmp x y
    rw [Lib.compareBytes]
    by_cases h1 : a < b
    · have h3 : a ≠ b := by rintro rfl; exact UInt8.lt_irrefl _ h1
      simp [h1, h3]
    · by_cases h2 : b < a
      · have h3 : a ≠ b := by rintro rfl; exact h1 h2
        simp [h1, h2, h3]
      · have h3 : a = b := UInt8.le_antisymm (UInt8.not_lt.1 h2) (UInt8.not_lt.1 h1)
        subst h3
        simp only [h1, if_false]
        rw [← ih]
        simp
theorem cmp_ways : ∀ s t : List UInt8, Lib.compareBytes s t = -1 ∨ Lib.compareBytes s t = 0 ∨ Lib.compareBytes s t = 1
  | [], [] => .inr (.inl rfl)
  | [], _ :: _ => .inl rfl
  | _ :: _, [] => .inr (.inr rfl)
  | a :: x, b :: y => by
    rw [Lib.compareBytes]
    split
    · exact .inl rfl
    split
    · exact .inr (.inr rfl)
    · exact cmp_ways x y

theorem rorder_bad1 (x y : Va) (w : World) (hs : x.str.length ≤ 9223372036854775807) (hx : rightV x = false) :
    Calls Tryz.prog 63 #[x.v, y.v] w (RetV (.int .i64 0) w) := by
  have C := fun w1 => rcheck_any x w1 hs
  simp only [chk_bad hx] at C
  have C := Lib.hid C
  rename_i C'
  clear C' hx hs
  have HB := Lib.hid ((below_alloc w (.cells #[.int .i64 x.kind, .int .i64 x.num, .int .i64 x.den, .string ⟨x.str.toArray⟩] 45)).alloc (by simp) (.cells #[.int .i64 y.kind, .int .i64 y.num, .int .i64 y.den, .string ⟨y.str.toArray⟩] 45))
  go_enter Tryz.func63, Tryz.ntmps63
  go_wp2_with fail
  refine (C.out _).mono ?_
  rintro e w1 ⟨rfl, hb⟩
  have HB1 := Lib.hid (below_keep HB.out hb)
  clear C hb
  go_wp2
  go_ret
  exact ⟨rfl, HB1.out⟩
theorem rorder_bad2 (x y : Va) (w : World) (hs : x.str.length ≤ 9223372036854775807) (ht : y.str.length ≤ 9223372036854775807) (hx : rightV x = true) (hy : rightV y = false) :
    Calls Tryz.prog 63 #[x.v, y.v] w (RetV (.int .i64 0) w) := by
  have C := fun w1 => rcheck_any x w1 hs
  simp only [chk_good hx] at C
  have D := fun w1 => rcheck_any y w1 ht
  simp only [chk_bad hy] at D
  have C := Lib.hid C
  have D := Lib.hid D
  rename_i C' D'
  clear C' D' hx hy hs ht
  obtain ⟨P, p0, PK, PD, PG⟩ := boxVV x y w
  have P0 := Lib.hid p0
  clear p0
  go_enter Tryz.func63, Tryz.ntmps63
  go_wp2_with fail
  refine (C.out _).mono ?_
  rintro e w1 ⟨rfl, hb⟩
  have P1 := Lib.hid (PK.out _ _ P0.out hb)
  obtain ⟨-, ⟨k0, k1, k2, k3⟩, -⟩ := PG.out _ P1.out
  clear C hb P0
  go_wp2_with fail
  refine (D.out _).mono ?_
  rintro e w2 ⟨rfl, hb⟩
  have P2 := Lib.hid (PK.out _ _ P1.out hb)
  clear D hb
  go_wp2
  go_ret
  exact ⟨rfl, (PG.out _ P2.out).2.2⟩

set_option maxHeartbeats 1600000 in
theorem rorder_kind (x y : Va) (w : World) (hs : x.str.length ≤ 9223372036854775807) (ht : y.str.length ≤ 9223372036854775807) (hx : rightV x = true) (hy : rightV y = true) (z : Int)
    (hk : (decide (x.kind < y.kind) = true ∧ decide (y.kind < x.kind) = false ∧ (x.kind == y.kind) = false ∧ z = -1) ∨ (decide (x.kind < y.kind) = false ∧ decide (y.kind < x.kind) = true ∧ (x.kind == y.kind) = false ∧ z = 1)) :
    Calls Tryz.prog 63 #[x.v, y.v] w (RetV (.int .i64 z) w) := by
  have C := fun w1 => rcheck_any x w1 hs
  simp only [chk_good hx] at C
  have D := fun w1 => rcheck_any y w1 ht
  simp only [chk_good hy] at D
  have C := Lib.hid C
  have D := Lib.hid D
  rename_i C' D'
  clear C' D' hx hy hs ht
  obtain ⟨P, p0, PK, PD, PG⟩ := boxVV x y w
  have P0 := Lib.hid p0
  clear p0
  rcases hk with ⟨h1, h2, h3, rfl⟩ | ⟨h1, h2, h3, rfl⟩
  all_goals
    go_enter Tryz.func63, Tryz.ntmps63
    go_wp2_with fail
    refine (C.out _).mono ?_
    rintro e w1 ⟨rfl, hb⟩
    have P1 := Lib.hid (PK.out _ _ P0.out hb)
    obtain ⟨-, ⟨k0, k1, k2, k3⟩, -⟩ := PG.out _ P1.out
    clear C hb P0
    go_wp2_with fail
    refine (D.out _).mono ?_
    rintro e w2 ⟨rfl, hb⟩
    have P2 := Lib.hid (PK.out _ _ P1.out hb)
    clear D hb k0 k1 k2 k3
    obtain ⟨⟨k0, -, -, -⟩, ⟨j0, -, -, -⟩, -⟩ := PG.out _ P2.out
    go_wp2
    go_quiet (fail)
    go_wp2
    go_ret
    exact ⟨rfl, (PG.out _ (PK.out _ _ P2.out (below_drewN' _ _))).2.2⟩

set_option maxHeartbeats 1600000 in
theorem rorder_small (k n d m e : Int) (s t : List UInt8) (w : World) (hk : k = 0 ∨ k = 1) (hs : s.length ≤ 9223372036854775807) (ht : t.length ≤ 9223372036854775807) (hx : rightV ⟨k, n, d, s⟩ = true) (hy : rightV ⟨k, m, e, t⟩ = true) :
    Calls Tryz.prog 63 #[(Va.mk k n d s).v, (Va.mk k m e t).v] w (RetV (.int .i64 (sgnI n m)) w) := by
  have C := fun w1 => rcheck_any ⟨k, n, d, s⟩ w1 hs
  simp only [chk_good hx] at C
  have D := fun w1 => rcheck_any ⟨k, m, e, t⟩ w1 ht
  simp only [chk_good hy] at D
  have C := Lib.hid C
  have D := Lib.hid D
  rename_i C' D'
  clear C' D' hx hy hs ht
  obtain ⟨P, p0, PK, PD, PG⟩ := boxVV ⟨k, n, d, s⟩ ⟨k, m, e, t⟩ w
  have P0 := Lib.hid p0
  clear p0
  have h' : (decide (n < m) = true ∧ decide (m < n) = false ∧ sgnI n m = -1) ∨ (decide (n < m) = false ∧ decide (m < n) = true ∧ sgnI n m = 1) ∨ (decide (n < m) = false ∧ decide (m < n) = false ∧ sgnI n m = 0) := by
    unfold sgnI
    by_cases h1 : n < m
    · left; refine ⟨decide_eq_true h1, decide_eq_false (by omega), by rw [if_pos h1]⟩
    · by_cases h2 : m < n
      · right; left; exact ⟨decide_eq_false h1, decide_eq_true h2, by rw [if_neg h1, if_pos h2]⟩
      · right; right; exact ⟨decide_eq_false h1, decide_eq_false h2, by rw [if_neg h1, if_neg h2]⟩
  rcases hk with rfl | rfl
  all_goals
    rcases h' with ⟨h1, h2, h3⟩ | ⟨h1, h2, h3⟩ | ⟨h1, h2, h3⟩
  all_goals
    rw [h3]
    clear h3
    go_enter Tryz.func63, Tryz.ntmps63
    go_wp2_with fail
    refine (C.out _).mono ?_
    rintro e w1 ⟨rfl, hb⟩
    have P1 := Lib.hid (PK.out _ _ P0.out hb)
    obtain ⟨-, ⟨k0, k1, k2, k3⟩, -⟩ := PG.out _ P1.out
    clear C hb P0
    go_wp2_with fail
    refine (D.out _).mono ?_
    rintro e w2 ⟨rfl, hb⟩
    have P2 := Lib.hid (PK.out _ _ P1.out hb)
    clear D hb k0 k1 k2 k3
    obtain ⟨⟨k0, k1, -, -⟩, ⟨j0, j1, -, -⟩, -⟩ := PG.out _ P2.out
    go_wp2
    go_quiet (fail)
    go_wp2
    go_quiet (fail)
    go_wp2
    go_ret
    exact ⟨rfl, (PG.out _ (PK.out _ _ P2.out (by first | exact below_drewN' _ _ | (rw [World.drewN_drewN]; exact below_drewN' _ _)))).2.2⟩

set_option maxHeartbeats 1600000 in
theorem rorder_textcore (S T : ByteArray) (z : Int) (w : World) (C : ∀ w1, Calls Tryz.prog 60 #[.agg #[.int .i64 3, .int .i64 0, .int .i64 0, .string S]] w1 (RetV (.int .i64 0) w1))
    (D : ∀ w1, Calls Tryz.prog 60 #[.agg #[.int .i64 3, .int .i64 0, .int .i64 0, .string T]] w1 (RetV (.int .i64 0) w1))
    (h' : (Op.bytesLess S.toList T.toList = true ∧ (S.toList == T.toList) = false ∧ z = -1) ∨ (Op.bytesLess S.toList T.toList = false ∧ (S.toList == T.toList) = false ∧ z = 1) ∨ (Op.bytesLess S.toList T.toList = false ∧ (S.toList == T.toList) = true ∧ z = 0)) :
    Calls Tryz.prog 63 #[.agg #[.int .i64 3, .int .i64 0, .int .i64 0, .string S], .agg #[.int .i64 3, .int .i64 0, .int .i64 0, .string T]] w (RetV (.int .i64 z) w) := by
  obtain ⟨P, p0, PK, PD, PG⟩ := boxVV ⟨3, 0, 0, S.data.toList⟩ ⟨3, 0, 0, T.data.toList⟩ w
  have eS : (⟨S.data.toList.toArray⟩ : ByteArray) = S := bytes_eq (by simp)
  have eT : (⟨T.data.toList.toArray⟩ : ByteArray) = T := bytes_eq (by simp)
  simp only [eS, eT] at p0
  have P0 := Lib.hid p0
  have PG : Hid (∀ w1, P w1 → w1.cell? ⟨w.heap.size, 0, none⟩ = some (.int .i64 3) ∧ w1.cell? ⟨w.heap.size, 1, none⟩ = some (.int .i64 0) ∧ w1.cell? ⟨w.heap.size, 2, none⟩ = some (.int .i64 0) ∧ w1.cell? ⟨w.heap.size, 3, none⟩ = some (.string S) ∧
      w1.cell? ⟨w.heap.size + 1, 0, none⟩ = some (.int .i64 3) ∧ w1.cell? ⟨w.heap.size + 1, 1, none⟩ = some (.int .i64 0) ∧ w1.cell? ⟨w.heap.size + 1, 2, none⟩ = some (.int .i64 0) ∧ w1.cell? ⟨w.heap.size + 1, 3, none⟩ = some (.string T) ∧ Below w.heap.size w w1) := fun w1 h => by
    obtain ⟨⟨a0, a1, a2, a3⟩, ⟨b0, b1, b2, b3⟩, hb⟩ := PG.out w1 h
    simp only [eS, eT] at a3 b3
    exact ⟨a0, a1, a2, a3, b0, b1, b2, b3, hb⟩
  have C := Lib.hid C
  have D := Lib.hid D
  rename_i PG' C' D'
  clear PG' C' D' eS eT p0
  rcases h' with ⟨h1, h2, h3⟩ | ⟨h1, h2, h3⟩ | ⟨h1, h2, h3⟩
  all_goals
    subst h3
    go_enter Tryz.func63, Tryz.ntmps63
    go_wp2_with fail
    refine (C.out _).mono ?_
    rintro e w1 ⟨rfl, hb⟩
    have P1 := Lib.hid (PK.out _ _ P0.out hb)
    obtain ⟨-, -, -, -, k0, k1, k2, k3, -⟩ := PG.out _ P1.out
    clear C hb P0
    go_wp2_with fail
    refine (D.out _).mono ?_
    rintro e w2 ⟨rfl, hb⟩
    have P2 := Lib.hid (PK.out _ _ P1.out hb)
    clear D hb k0 k1 k2 k3
    obtain ⟨k0, -, -, k3, j0, -, -, j3, -⟩ := PG.out _ P2.out
    go_wp2
    go_quiet (fail)
    go_wp2
    go_quiet (fail)
    go_wp2
    go_ret
    exact ⟨rfl, (PG.out _ (PK.out _ _ P2.out (by first | exact below_drewN' _ _ | (rw [World.drewN_drewN]; exact below_drewN' _ _)))).2.2.2.2.2.2.2.2⟩

theorem rorder_text (s t : List UInt8) (w : World) (hs : s.length ≤ 9223372036854775807) (ht : t.length ≤ 9223372036854775807) (hx : rightV (textV s) = true) (hy : rightV (textV t) = true) :
    Calls Tryz.prog 63 #[(textV s).v, (textV t).v] w (RetV (.int .i64 (Lib.compareBytes s t)) w) := by
  refine rorder_textcore ⟨s.toArray⟩ ⟨t.toArray⟩ _ w (fun w1 => ?_) (fun w1 => ?_) ?_
  · have := rcheck_any (textV s) w1 hs; rwa [chk_good hx] at this
  · have := rcheck_any (textV t) w1 ht; rwa [chk_good hy] at this
  · rw [ByteArray.toList_eq, ByteArray.toList_eq]
    simp only []
    rw [less_cmp, eq_cmp]
    rcases cmp_ways s t with h | h | h <;> rw [h] <;> simp

set_option maxHeartbeats 3200000 in
set_option maxRecDepth 100000 in
theorem rorder_numcore (p q : Rat) (N E M F z : Int) (w : World) (C : ∀ w1, Calls Tryz.prog 60 #[(Va.mk 2 N E []).v] w1 (RetV (.int .i64 0) w1))
    (D : ∀ w1, Calls Tryz.prog 60 #[(Va.mk 2 M F []).v] w1 (RetV (.int .i64 0) w1))
    (NA : ∀ w1, Calls Tryz.prog 58 #[(Va.mk 2 N E []).v] w1 fun e w' => ∃ v, e = .returned (.tuple #[v, .bool true]) ∧ Q9 w' v p ∧ Below w1.heap.size w1 w')
    (NB : ∀ w1, Calls Tryz.prog 58 #[(Va.mk 2 M F []).v] w1 fun e w' => ∃ v, e = .returned (.tuple #[v, .bool true]) ∧ Q9 w' v q ∧ Below w1.heap.size w1 w')
    (CC : ∀ w1 u v, Q9 w1 u p → Q9 w1 v q → Calls Tryz.prog 33 #[u, v] w1 (RetV (.int .i64 z) w1)) :
    Calls Tryz.prog 63 #[(Va.mk 2 N E []).v, (Va.mk 2 M F []).v] w (RetV (.int .i64 z) w) := by
  obtain ⟨P, p0, PK, PD, PG⟩ := boxVV ⟨2, N, E, []⟩ ⟨2, M, F, []⟩ w
  have P0 := Lib.hid p0
  have C := Lib.hid C
  have D := Lib.hid D
  have NA := Lib.hid NA
  have NB := Lib.hid NB
  have CC := Lib.hid CC
  rename_i C' D' NA' NB' CC'
  clear C' D' NA' NB' CC' p0
  go_enter Tryz.func63, Tryz.ntmps63
  go_wp2_with fail
  refine (C.out _).mono ?_
  rintro e w1 ⟨rfl, hb⟩
  have P1 := Lib.hid (PK.out _ _ P0.out hb)
  obtain ⟨-, ⟨k0, k1, k2, k3⟩, -⟩ := PG.out _ P1.out
  clear C hb P0
  go_wp2_with fail
  refine (D.out _).mono ?_
  rintro e w2 ⟨rfl, hb⟩
  have P2 := Lib.hid (PK.out _ _ P1.out hb)
  clear D hb k0 k1 k2 k3
  obtain ⟨⟨k0, k1, k2, k3⟩, ⟨j0, j1, j2, j3⟩, -⟩ := PG.out _ P2.out
  go_wp2
  go_quiet (fail)
  have P3 := Lib.hid (fun k => PK.out _ _ P2.out (below_drewN' w2 k))
  go_wp2_with fail
  refine (NA.out _).mono ?_
  rintro e w3 ⟨v3, rfl, ⟨vn, vd, rfl, hn, hd⟩, hb⟩
  obtain ⟨a1, n1, c1, rfl, -⟩ := hn.shape (by decide)
  obtain ⟨a2, n2, c2, rfl, -⟩ := hd.shape (by decide)
  obtain ⟨b, hb1⟩ : ∃ b, b = qneg p := ⟨_, rfl⟩
  rw [← hb1]
  obtain ⟨A, A0, AK, AD, AG⟩ := boxP 28 hb1 hn hd
  have P4 := Lib.hid (PK.out _ _ (PK.out _ _ (P3.out _) hb) (below_alloc w3 (.cells #[.bool b, .slice a1 n1 c1, .slice a2 n2 c2] 28)))
  clear k0 k1 k2 k3 j0 j1 j2 j3
  obtain ⟨-, ⟨j0, j1, j2, j3⟩, -⟩ := PG.out _ P4.out
  have A0 := Lib.hid A0
  have HB1 := Lib.hid hb1
  rename_i A0'
  clear A0' hb1 hn hd hb NA
  go_wp2_with fail
  refine (NB.out _).mono ?_
  rintro e w4 ⟨v4, rfl, ⟨vn, vd, rfl, hn, hd⟩, hb⟩
  obtain ⟨a3, n3, c3, rfl, -⟩ := hn.shape (by decide)
  obtain ⟨a4, n4, c4, rfl, -⟩ := hd.shape (by decide)
  obtain ⟨c, hb1⟩ : ∃ c, c = qneg q := ⟨_, rfl⟩
  rw [← hb1]
  have P5 := Lib.hid (PK.out _ _ (PK.out _ _ P4.out hb) (below_alloc w4 (.cells #[.bool c, .slice a3 n3 c3, .slice a4 n4 c4] 28)))
  have A5 := Lib.hid (AK.out _ _ (AK.out _ _ A0.out hb) (below_alloc w4 (.cells #[.bool c, .slice a3 n3 c3, .slice a4 n4 c4] 28)))
  have Q5 : Hid (Q9 (w4.alloc (.cells #[.bool c, .slice a3 n3 c3, .slice a4 n4 c4] 28)) (.agg #[.bool c, .slice a3 n3 c3, .slice a4 n4 c4]) q) :=
    ⟨_, _, by rw [hb1], hn.later (below_alloc _ _), hd.later (below_alloc _ _)⟩
  have R5 : Hid (Q9 (w4.alloc (.cells #[.bool c, .slice a3 n3 c3, .slice a4 n4 c4] 28)) (.agg #[.bool b, .slice a1 n1 c1, .slice a2 n2 c2]) p) :=
    ⟨_, _, by rw [HB1.out], (AG.out _ A5.out).1.isNum, (AG.out _ A5.out).1.isDen⟩
  clear j0 j1 j2 j3 hb1 hn hd hb NB
  obtain ⟨⟨k0, k1, k2, -, -⟩, -⟩ := AG.out _ A5.out
  go_wp2_with fail
  refine (CC.out _ _ _ R5.out Q5.out).mono ?_
  rintro e w5 ⟨rfl, hb⟩
  have P6 := Lib.hid (PK.out _ _ P5.out hb)
  clear hb
  go_wp2
  go_ret
  exact ⟨rfl, (PG.out _ P6.out).2.2⟩

theorem rorder_num (p q : Rat) (hp : FitQ p) (hq : FitQ q) (w : World) :
    Calls Tryz.prog 63 #[(ratV p).v, (ratV q).v] w (RetV (.int .i64 (sgnQ (p - q))) w) :=
  rorder_numcore p q p.num p.den q.num q.den _ w (fun w1 => by have := rcheck_any (ratV p) w1 (by simp); rwa [chk_good (right_rat hp)] at this) (fun w1 => by have := rcheck_any (ratV q) w1 (by simp); rwa [chk_good (right_rat hq)] at this)
    (rnumber_good p hp) (rnumber_good q hq) (fun w1 u v h1 h2 => cmp9R_any h1 h2 hp.bd hq.bd (by omega))

theorem rorder_any (x y : Va) (w : World) (hs : x.str.length ≤ 9223372036854775807) (ht : y.str.length ≤ 9223372036854775807) :
    Calls Tryz.prog 63 #[x.v, y.v] w (RetV (.int .i64 (ordE x y)) w) := by
  unfold ordE
  cases hx : rightV x with
  | false => simp; exact rorder_bad1 x y w hs hx
  | true =>
    cases hy : rightV y with
    | false => simp; exact rorder_bad2 x y w hs ht hx hy
    | true =>
      simp only [and_self, if_true]
      by_cases hk : x.kind = y.kind
      · unfold orderV
        rw [if_neg (by omega), if_neg (by omega)]
        rcases right_cases hx with ⟨r, h1, h2, rfl⟩ | ⟨b, rfl⟩ | ⟨q, hq, rfl⟩ | ⟨s, h1, h2, rfl⟩ <;>
        rcases right_cases hy with ⟨r', h1', h2', rfl⟩ | ⟨b', rfl⟩ | ⟨q', hq', rfl⟩ | ⟨s', h1', h2', rfl⟩ <;>
        first
          | (exfalso; revert hk; simp; done)
          | skip
        · exact rorder_small 0 r 0 r' 0 [] [] w (.inl rfl) hs ht hx hy
        · exact rorder_small 1 _ 0 _ 0 [] [] w (.inr rfl) hs ht hx hy
        · rw [if_pos rfl, qOf_ratV, qOf_ratV]; exact rorder_num q q' hq hq' w
        · exact rorder_text s s' w hs ht hx hy
      · refine rorder_kind x y w hs ht hx hy _ ?_
        rw [orderV_ne hk]
        unfold sgnI
        by_cases h1 : x.kind < y.kind
        · left; exact ⟨decide_eq_true h1, decide_eq_false (by omega), by rw [beq_eq_false_iff_ne]; exact hk, by rw [if_pos h1]⟩
        · right; exact ⟨decide_eq_false h1, decide_eq_true (by omega), by rw [beq_eq_false_iff_ne]; exact hk, by rw [if_neg h1, if_pos (by omega)]⟩
end Go.Proofs.YtemhidlaaommaaaGreatDoor
