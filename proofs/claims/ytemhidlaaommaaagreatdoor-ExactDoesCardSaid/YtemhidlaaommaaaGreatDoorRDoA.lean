/- The reference's operations: contracts of of, alike, kinds. (printed by gen_rkinds.py) -/
import Derived.Deep.RegionHeld3
import Derived.Test.YtemhidlaaommaaaGreatDoorD9
import Derived.Test.YtemhidlaaommaaaGreatDoorG2
import Derived.Test.YtemhidlaaommaaaGreatDoorRefT
namespace Go.Proofs.YtemhidlaaommaaaGreatDoor
open Go.RowKit

theorem rof_any (x : Va) (k : Int) (w : World) :
    Calls Tryz.prog 135 #[x.v, .int .i64 k] w (RetV (.bool (isK x k)) w) := by
  by_cases h : x.kind = 0
  · have e : isK x k = true := by simp [isK, h]
    have h1 : (x.kind == (0 : Int)) = true := by rw [h]; rfl
    rw [e]
    clear h e
    go_enter Tryz.func135, Tryz.ntmps135
    go_wp2
    go_ret
    exact ⟨rfl, below_alloc _ _⟩
  · have h1 : (x.kind == (0 : Int)) = false := by rw [beq_eq_false_iff_ne]; exact h
    have e : Hid ((x.kind == k) = isK x k) := by show _ = _; unfold isK; rw [Bool.eq_iff_iff]; simp [h]
    clear h
    go_enter Tryz.func135, Tryz.ntmps135
    go_wp2
    go_ret
    exact ⟨congrArg (fun b => Ending.returned (.bool b)) e.out, below_alloc _ _⟩
theorem ralike_any (x y : Va) (w : World) :
    Calls Tryz.prog 136 #[x.v, y.v] w (RetV (.bool (alikeV x y)) w) := by
  have hb : Hid (Below w.heap.size w ((w.alloc (.cells #[.int .i64 x.kind, .int .i64 x.num, .int .i64 x.den, .string ⟨x.str.toArray⟩] 45)).alloc (.cells #[.int .i64 y.kind, .int .i64 y.num, .int .i64 y.den, .string ⟨y.str.toArray⟩] 45))) := (below_alloc _ _).alloc (by simp) _
  by_cases h : x.kind = 0
  · have e : alikeV x y = true := by simp [alikeV, h]
    have h1 : (x.kind == (0 : Int)) = true := by rw [h]; rfl
    rw [e]
    clear h e
    go_enter Tryz.func136, Tryz.ntmps136
    go_wp2
    go_ret
    exact ⟨rfl, hb.out⟩
  · have h1 : (x.kind == (0 : Int)) = false := by rw [beq_eq_false_iff_ne]; exact h
    by_cases h' : y.kind = 0
    · have e : alikeV x y = true := by simp [alikeV, isK, h']
      have h2 : (y.kind == (0 : Int)) = true := by rw [h']; rfl
      rw [e]
      clear h h' e
      go_enter Tryz.func136, Tryz.ntmps136
      go_wp2
      go_ret
      exact ⟨rfl, hb.out⟩
    · have h2 : (y.kind == (0 : Int)) = false := by rw [beq_eq_false_iff_ne]; exact h'
      have e : Hid ((x.kind == y.kind) = alikeV x y) := by show _ = _; unfold alikeV isK; rw [Bool.eq_iff_iff]; simp [h, h']; exact eq_comm
      clear h h'
      go_enter Tryz.func136, Tryz.ntmps136
      go_wp2
      go_ret
      exact ⟨congrArg (fun b => Ending.returned (.bool b)) e.out, hb.out⟩

theorem rkinds_4 (a : Va) (g o cap : Nat) (w : World) (h : VaAt w g o a) :
    Calls Tryz.prog 100 #[.int .i64 4, .slice (some ⟨g, o, none⟩) 1 cap] w (RetV (.bool ((opS 4).kinds [a])) w) := by
  obtain ⟨k0, k1, k2, k3⟩ := h
  have e : (opS 4).kinds [a] = isK a 1 := by show allK 1 [a] = _; simp [allK]
  rw [e]
  clear e
  have C := Lib.hid (fun w1 => rof_any a 1 w1)
  go_enter Tryz.func100, Tryz.ntmps100
  go_wp2_with fail
  refine (C.out _).mono ?_
  rintro e w1 ⟨rfl, hb⟩
  go_wp2
  go_ret
  exact ⟨rfl, hb⟩
theorem rkinds_5 (a : Va) (g o cap : Nat) (w : World) (h : VaAt w g o a) :
    Calls Tryz.prog 100 #[.int .i64 5, .slice (some ⟨g, o, none⟩) 1 cap] w (RetV (.bool ((opS 5).kinds [a])) w) := by
  obtain ⟨k0, k1, k2, k3⟩ := h
  have e : (opS 5).kinds [a] = isK a 2 := by show allK 2 [a] = _; simp [allK]
  rw [e]
  clear e
  have C := Lib.hid (fun w1 => rof_any a 2 w1)
  go_enter Tryz.func100, Tryz.ntmps100
  go_wp2_with fail
  refine (C.out _).mono ?_
  rintro e w1 ⟨rfl, hb⟩
  go_wp2
  go_ret
  exact ⟨rfl, hb⟩
theorem rkinds_6 (a : Va) (g o cap : Nat) (w : World) (h : VaAt w g o a) :
    Calls Tryz.prog 100 #[.int .i64 6, .slice (some ⟨g, o, none⟩) 1 cap] w (RetV (.bool ((opS 6).kinds [a])) w) := by
  obtain ⟨k0, k1, k2, k3⟩ := h
  have e : (opS 6).kinds [a] = isK a 2 := by show allK 2 [a] = _; simp [allK]
  rw [e]
  clear e
  have C := Lib.hid (fun w1 => rof_any a 2 w1)
  go_enter Tryz.func100, Tryz.ntmps100
  go_wp2_with fail
  refine (C.out _).mono ?_
  rintro e w1 ⟨rfl, hb⟩
  go_wp2
  go_ret
  exact ⟨rfl, hb⟩
theorem rkinds_7 (a : Va) (g o cap : Nat) (w : World) :
    Calls Tryz.prog 100 #[.int .i64 7, .slice (some ⟨g, o, none⟩) 1 cap] w (RetV (.bool ((opS 7).kinds [a])) w) := by
  show Calls _ _ _ _ (RetV (.bool true) w)
  go_enter Tryz.func100, Tryz.ntmps100
  go_wp2
  go_ret
  exact ⟨rfl, Below.refl _ _⟩
theorem rkinds_8 (a : Va) (g o cap : Nat) (w : World) :
    Calls Tryz.prog 100 #[.int .i64 8, .slice (some ⟨g, o, none⟩) 1 cap] w (RetV (.bool ((opS 8).kinds [a])) w) := by
  show Calls _ _ _ _ (RetV (.bool true) w)
  go_enter Tryz.func100, Tryz.ntmps100
  go_wp2
  go_ret
  exact ⟨rfl, Below.refl _ _⟩
theorem rkinds_9 (a b : Va) (g o cap : Nat) (w : World) (h : VaAt w g o a) (h' : VaAt w g (o + 4) b) :
    Calls Tryz.prog 100 #[.int .i64 9, .slice (some ⟨g, o, none⟩) 2 cap] w (RetV (.bool ((opS 9).kinds [a, b])) w) := by
  have B := Lib.hid h'
  obtain ⟨k0, k1, k2, k3⟩ := h
  have e : (opS 9).kinds [a, b] = (isK a 2 && isK b 2) := by show allK 2 [a, b] = _; simp [allK]
  rw [e]
  clear e h'
  have C := fun w1 => rof_any a 2 w1
  have D := Lib.hid (fun w1 => rof_any b 2 w1)
  cases ha : isK a 2 with
  | false =>
    rw [ha] at C
    have C := Lib.hid C
    rename_i C'
    clear C' D ha
    go_enter Tryz.func100, Tryz.ntmps100
    go_wp2_with fail
    refine (C.out _).mono ?_
    rintro e w1 ⟨rfl, hb⟩
    go_wp2
    go_ret
    exact ⟨rfl, hb⟩
  | true =>
    rw [ha] at C
    have C := Lib.hid C
    rename_i C'
    clear C' ha
    go_enter Tryz.func100, Tryz.ntmps100
    go_wp2_with fail
    refine (C.out _).mono ?_
    rintro e w1 ⟨rfl, hb⟩
    have HB := Lib.hid hb
    clear k0 k1 k2 k3 C
    obtain ⟨k0, k1, k2, k3⟩ := B.out.later' hb
    clear hb
    go_wp2_with fail
    refine (D.out _).mono ?_
    rintro e w2 ⟨rfl, hb⟩
    have HB2 := Lib.hid (below_keep HB.out hb)
    clear hb
    go_wp2
    go_ret
    exact ⟨rfl, HB2.out⟩
theorem rkinds_10 (a b : Va) (g o cap : Nat) (w : World) (h : VaAt w g o a) (h' : VaAt w g (o + 4) b) :
    Calls Tryz.prog 100 #[.int .i64 10, .slice (some ⟨g, o, none⟩) 2 cap] w (RetV (.bool ((opS 10).kinds [a, b])) w) := by
  have B := Lib.hid h'
  obtain ⟨k0, k1, k2, k3⟩ := h
  have e : (opS 10).kinds [a, b] = (isK a 2 && isK b 2) := by show allK 2 [a, b] = _; simp [allK]
  rw [e]
  clear e h'
  have C := fun w1 => rof_any a 2 w1
  have D := Lib.hid (fun w1 => rof_any b 2 w1)
  cases ha : isK a 2 with
  | false =>
    rw [ha] at C
    have C := Lib.hid C
    rename_i C'
    clear C' D ha
    go_enter Tryz.func100, Tryz.ntmps100
    go_wp2_with fail
    refine (C.out _).mono ?_
    rintro e w1 ⟨rfl, hb⟩
    go_wp2
    go_ret
    exact ⟨rfl, hb⟩
  | true =>
    rw [ha] at C
    have C := Lib.hid C
    rename_i C'
    clear C' ha
    go_enter Tryz.func100, Tryz.ntmps100
    go_wp2_with fail
    refine (C.out _).mono ?_
    rintro e w1 ⟨rfl, hb⟩
    have HB := Lib.hid hb
    clear k0 k1 k2 k3 C
    obtain ⟨k0, k1, k2, k3⟩ := B.out.later' hb
    clear hb
    go_wp2_with fail
    refine (D.out _).mono ?_
    rintro e w2 ⟨rfl, hb⟩
    have HB2 := Lib.hid (below_keep HB.out hb)
    clear hb
    go_wp2
    go_ret
    exact ⟨rfl, HB2.out⟩
theorem rkinds_11 (a b : Va) (g o cap : Nat) (w : World) (h : VaAt w g o a) (h' : VaAt w g (o + 4) b) :
    Calls Tryz.prog 100 #[.int .i64 11, .slice (some ⟨g, o, none⟩) 2 cap] w (RetV (.bool ((opS 11).kinds [a, b])) w) := by
  have B := Lib.hid h'
  obtain ⟨k0, k1, k2, k3⟩ := h
  have e : (opS 11).kinds [a, b] = (isK a 2 && isK b 2) := by show allK 2 [a, b] = _; simp [allK]
  rw [e]
  clear e h'
  have C := fun w1 => rof_any a 2 w1
  have D := Lib.hid (fun w1 => rof_any b 2 w1)
  cases ha : isK a 2 with
  | false =>
    rw [ha] at C
    have C := Lib.hid C
    rename_i C'
    clear C' D ha
    go_enter Tryz.func100, Tryz.ntmps100
    go_wp2_with fail
    refine (C.out _).mono ?_
    rintro e w1 ⟨rfl, hb⟩
    go_wp2
    go_ret
    exact ⟨rfl, hb⟩
  | true =>
    rw [ha] at C
    have C := Lib.hid C
    rename_i C'
    clear C' ha
    go_enter Tryz.func100, Tryz.ntmps100
    go_wp2_with fail
    refine (C.out _).mono ?_
    rintro e w1 ⟨rfl, hb⟩
    have HB := Lib.hid hb
    clear k0 k1 k2 k3 C
    obtain ⟨k0, k1, k2, k3⟩ := B.out.later' hb
    clear hb
    go_wp2_with fail
    refine (D.out _).mono ?_
    rintro e w2 ⟨rfl, hb⟩
    have HB2 := Lib.hid (below_keep HB.out hb)
    clear hb
    go_wp2
    go_ret
    exact ⟨rfl, HB2.out⟩
theorem rkinds_12 (a b : Va) (g o cap : Nat) (w : World) (h : VaAt w g o a) (h' : VaAt w g (o + 4) b) :
    Calls Tryz.prog 100 #[.int .i64 12, .slice (some ⟨g, o, none⟩) 2 cap] w (RetV (.bool ((opS 12).kinds [a, b])) w) := by
  have B := Lib.hid h'
  obtain ⟨k0, k1, k2, k3⟩ := h
  have e : (opS 12).kinds [a, b] = (isK a 2 && isK b 2) := by show allK 2 [a, b] = _; simp [allK]
  rw [e]
  clear e h'
  have C := fun w1 => rof_any a 2 w1
  have D := Lib.hid (fun w1 => rof_any b 2 w1)
  cases ha : isK a 2 with
  | false =>
    rw [ha] at C
    have C := Lib.hid C
    rename_i C'
    clear C' D ha
    go_enter Tryz.func100, Tryz.ntmps100
    go_wp2_with fail
    refine (C.out _).mono ?_
    rintro e w1 ⟨rfl, hb⟩
    go_wp2
    go_ret
    exact ⟨rfl, hb⟩
  | true =>
    rw [ha] at C
    have C := Lib.hid C
    rename_i C'
    clear C' ha
    go_enter Tryz.func100, Tryz.ntmps100
    go_wp2_with fail
    refine (C.out _).mono ?_
    rintro e w1 ⟨rfl, hb⟩
    have HB := Lib.hid hb
    clear k0 k1 k2 k3 C
    obtain ⟨k0, k1, k2, k3⟩ := B.out.later' hb
    clear hb
    go_wp2_with fail
    refine (D.out _).mono ?_
    rintro e w2 ⟨rfl, hb⟩
    have HB2 := Lib.hid (below_keep HB.out hb)
    clear hb
    go_wp2
    go_ret
    exact ⟨rfl, HB2.out⟩
theorem rkinds_19 (a b : Va) (g o cap : Nat) (w : World) (h : VaAt w g o a) (h' : VaAt w g (o + 4) b) :
    Calls Tryz.prog 100 #[.int .i64 19, .slice (some ⟨g, o, none⟩) 2 cap] w (RetV (.bool ((opS 19).kinds [a, b])) w) := by
  have B := Lib.hid h'
  obtain ⟨k0, k1, k2, k3⟩ := h
  have e : (opS 19).kinds [a, b] = (isK a 1 && isK b 1) := by show allK 1 [a, b] = _; simp [allK]
  rw [e]
  clear e h'
  have C := fun w1 => rof_any a 1 w1
  have D := Lib.hid (fun w1 => rof_any b 1 w1)
  cases ha : isK a 1 with
  | false =>
    rw [ha] at C
    have C := Lib.hid C
    rename_i C'
    clear C' D ha
    go_enter Tryz.func100, Tryz.ntmps100
    go_wp2_with fail
    refine (C.out _).mono ?_
    rintro e w1 ⟨rfl, hb⟩
    go_wp2
    go_ret
    exact ⟨rfl, hb⟩
  | true =>
    rw [ha] at C
    have C := Lib.hid C
    rename_i C'
    clear C' ha
    go_enter Tryz.func100, Tryz.ntmps100
    go_wp2_with fail
    refine (C.out _).mono ?_
    rintro e w1 ⟨rfl, hb⟩
    have HB := Lib.hid hb
    clear k0 k1 k2 k3 C
    obtain ⟨k0, k1, k2, k3⟩ := B.out.later' hb
    clear hb
    go_wp2_with fail
    refine (D.out _).mono ?_
    rintro e w2 ⟨rfl, hb⟩
    have HB2 := Lib.hid (below_keep HB.out hb)
    clear hb
    go_wp2
    go_ret
    exact ⟨rfl, HB2.out⟩
theorem rkinds_20 (a b : Va) (g o cap : Nat) (w : World) (h : VaAt w g o a) (h' : VaAt w g (o + 4) b) :
    Calls Tryz.prog 100 #[.int .i64 20, .slice (some ⟨g, o, none⟩) 2 cap] w (RetV (.bool ((opS 20).kinds [a, b])) w) := by
  have B := Lib.hid h'
  obtain ⟨k0, k1, k2, k3⟩ := h
  have e : (opS 20).kinds [a, b] = (isK a 1 && isK b 1) := by show allK 1 [a, b] = _; simp [allK]
  rw [e]
  clear e h'
  have C := fun w1 => rof_any a 1 w1
  have D := Lib.hid (fun w1 => rof_any b 1 w1)
  cases ha : isK a 1 with
  | false =>
    rw [ha] at C
    have C := Lib.hid C
    rename_i C'
    clear C' D ha
    go_enter Tryz.func100, Tryz.ntmps100
    go_wp2_with fail
    refine (C.out _).mono ?_
    rintro e w1 ⟨rfl, hb⟩
    go_wp2
    go_ret
    exact ⟨rfl, hb⟩
  | true =>
    rw [ha] at C
    have C := Lib.hid C
    rename_i C'
    clear C' ha
    go_enter Tryz.func100, Tryz.ntmps100
    go_wp2_with fail
    refine (C.out _).mono ?_
    rintro e w1 ⟨rfl, hb⟩
    have HB := Lib.hid hb
    clear k0 k1 k2 k3 C
    obtain ⟨k0, k1, k2, k3⟩ := B.out.later' hb
    clear hb
    go_wp2_with fail
    refine (D.out _).mono ?_
    rintro e w2 ⟨rfl, hb⟩
    have HB2 := Lib.hid (below_keep HB.out hb)
    clear hb
    go_wp2
    go_ret
    exact ⟨rfl, HB2.out⟩
set_option maxHeartbeats 800000 in
theorem rkinds_13 (a b : Va) (g o cap : Nat) (w : World) (h : VaAt w g o a) (h' : VaAt w g (o + 4) b) :
    Calls Tryz.prog 100 #[.int .i64 13, .slice (some ⟨g, o, none⟩) 2 cap] w (RetV (.bool ((opS 13).kinds [a, b])) w) := by
  have K : Hid (∀ w', Below w.heap.size w w' → w'.cell? ⟨g, o, none⟩ = some (.int .i64 a.kind) ∧ w'.cell? ⟨g, o + 1, none⟩ = some (.int .i64 a.num) ∧ w'.cell? ⟨g, o + 2, none⟩ = some (.int .i64 a.den) ∧ w'.cell? ⟨g, o + 3, none⟩ = some (.string ⟨a.str.toArray⟩) ∧ w'.cell? ⟨g, o + 4, none⟩ = some (.int .i64 b.kind) ∧ w'.cell? ⟨g, o + 5, none⟩ = some (.int .i64 b.num) ∧ w'.cell? ⟨g, o + 6, none⟩ = some (.int .i64 b.den) ∧ w'.cell? ⟨g, o + 7, none⟩ = some (.string ⟨b.str.toArray⟩) ∧ Below w.heap.size w w') := fun w1 hb =>
    let b1 := h.later' hb; let b2 := h'.later' hb
    ⟨b1.kind, b1.num, b1.den, b1.str, b2.kind, b2.num, b2.den, b2.str, hb⟩
  have e : (opS 13).kinds [a, b] = alikeV a b := rfl
  rw [e]
  obtain ⟨k0, k1, k2, k3, k4, k5, k6, k7, -⟩ := K.out w (Below.refl _ _)
  clear e h h'
  have C := Lib.hid (fun w1 => ralike_any a b w1)
  have hbd : Below w.heap.size w w.drew := (Below.refl _ _).drew
  go_enter Tryz.func100, Tryz.ntmps100
  go_wp2_with fail
  go_region_held3 (fun w' => w'.cell? ⟨g, o, none⟩ = some (.int .i64 a.kind) ∧ w'.cell? ⟨g, o + 1, none⟩ = some (.int .i64 a.num) ∧ w'.cell? ⟨g, o + 2, none⟩ = some (.int .i64 a.den) ∧ w'.cell? ⟨g, o + 3, none⟩ = some (.string ⟨a.str.toArray⟩) ∧ w'.cell? ⟨g, o + 4, none⟩ = some (.int .i64 b.kind) ∧ w'.cell? ⟨g, o + 5, none⟩ = some (.int .i64 b.num) ∧ w'.cell? ⟨g, o + 6, none⟩ = some (.int .i64 b.den) ∧ w'.cell? ⟨g, o + 7, none⟩ = some (.string ⟨b.str.toArray⟩) ∧ Below w.heap.size w w')
    (exact K.out _ (by assumption))
    (first | (go_at_call 136; refine (C.out _).mono ?_; rintro e w2 ⟨rfl, hb2⟩; have hB2 := below_keep hbd hb2))
  have HB2 := Lib.hid hB2
  clear hb2 hB2 hbd
  go_wp2
  go_ret
  exact ⟨rfl, HB2.out⟩
set_option maxHeartbeats 800000 in
theorem rkinds_14 (a b : Va) (g o cap : Nat) (w : World) (h : VaAt w g o a) (h' : VaAt w g (o + 4) b) :
    Calls Tryz.prog 100 #[.int .i64 14, .slice (some ⟨g, o, none⟩) 2 cap] w (RetV (.bool ((opS 14).kinds [a, b])) w) := by
  have K : Hid (∀ w', Below w.heap.size w w' → w'.cell? ⟨g, o, none⟩ = some (.int .i64 a.kind) ∧ w'.cell? ⟨g, o + 1, none⟩ = some (.int .i64 a.num) ∧ w'.cell? ⟨g, o + 2, none⟩ = some (.int .i64 a.den) ∧ w'.cell? ⟨g, o + 3, none⟩ = some (.string ⟨a.str.toArray⟩) ∧ w'.cell? ⟨g, o + 4, none⟩ = some (.int .i64 b.kind) ∧ w'.cell? ⟨g, o + 5, none⟩ = some (.int .i64 b.num) ∧ w'.cell? ⟨g, o + 6, none⟩ = some (.int .i64 b.den) ∧ w'.cell? ⟨g, o + 7, none⟩ = some (.string ⟨b.str.toArray⟩) ∧ Below w.heap.size w w') := fun w1 hb =>
    let b1 := h.later' hb; let b2 := h'.later' hb
    ⟨b1.kind, b1.num, b1.den, b1.str, b2.kind, b2.num, b2.den, b2.str, hb⟩
  have e : (opS 14).kinds [a, b] = alikeV a b := rfl
  rw [e]
  obtain ⟨k0, k1, k2, k3, k4, k5, k6, k7, -⟩ := K.out w (Below.refl _ _)
  clear e h h'
  have C := Lib.hid (fun w1 => ralike_any a b w1)
  have hbd : Below w.heap.size w w.drew := (Below.refl _ _).drew
  go_enter Tryz.func100, Tryz.ntmps100
  go_wp2_with fail
  go_region_held3 (fun w' => w'.cell? ⟨g, o, none⟩ = some (.int .i64 a.kind) ∧ w'.cell? ⟨g, o + 1, none⟩ = some (.int .i64 a.num) ∧ w'.cell? ⟨g, o + 2, none⟩ = some (.int .i64 a.den) ∧ w'.cell? ⟨g, o + 3, none⟩ = some (.string ⟨a.str.toArray⟩) ∧ w'.cell? ⟨g, o + 4, none⟩ = some (.int .i64 b.kind) ∧ w'.cell? ⟨g, o + 5, none⟩ = some (.int .i64 b.num) ∧ w'.cell? ⟨g, o + 6, none⟩ = some (.int .i64 b.den) ∧ w'.cell? ⟨g, o + 7, none⟩ = some (.string ⟨b.str.toArray⟩) ∧ Below w.heap.size w w')
    (exact K.out _ (by assumption))
    (first | (go_at_call 136; refine (C.out _).mono ?_; rintro e w2 ⟨rfl, hb2⟩; have hB2 := below_keep hbd hb2))
  have HB2 := Lib.hid hB2
  clear hb2 hB2 hbd
  go_wp2
  go_ret
  exact ⟨rfl, HB2.out⟩
set_option maxHeartbeats 800000 in
theorem rkinds_15 (a b : Va) (g o cap : Nat) (w : World) (h : VaAt w g o a) (h' : VaAt w g (o + 4) b) :
    Calls Tryz.prog 100 #[.int .i64 15, .slice (some ⟨g, o, none⟩) 2 cap] w (RetV (.bool ((opS 15).kinds [a, b])) w) := by
  have K : Hid (∀ w', Below w.heap.size w w' → w'.cell? ⟨g, o, none⟩ = some (.int .i64 a.kind) ∧ w'.cell? ⟨g, o + 1, none⟩ = some (.int .i64 a.num) ∧ w'.cell? ⟨g, o + 2, none⟩ = some (.int .i64 a.den) ∧ w'.cell? ⟨g, o + 3, none⟩ = some (.string ⟨a.str.toArray⟩) ∧ w'.cell? ⟨g, o + 4, none⟩ = some (.int .i64 b.kind) ∧ w'.cell? ⟨g, o + 5, none⟩ = some (.int .i64 b.num) ∧ w'.cell? ⟨g, o + 6, none⟩ = some (.int .i64 b.den) ∧ w'.cell? ⟨g, o + 7, none⟩ = some (.string ⟨b.str.toArray⟩) ∧ Below w.heap.size w w') := fun w1 hb =>
    let b1 := h.later' hb; let b2 := h'.later' hb
    ⟨b1.kind, b1.num, b1.den, b1.str, b2.kind, b2.num, b2.den, b2.str, hb⟩
  have e : (opS 15).kinds [a, b] = alikeV a b := rfl
  rw [e]
  obtain ⟨k0, k1, k2, k3, k4, k5, k6, k7, -⟩ := K.out w (Below.refl _ _)
  clear e h h'
  have C := Lib.hid (fun w1 => ralike_any a b w1)
  have hbd : Below w.heap.size w w.drew := (Below.refl _ _).drew
  go_enter Tryz.func100, Tryz.ntmps100
  go_wp2_with fail
  go_region_held3 (fun w' => w'.cell? ⟨g, o, none⟩ = some (.int .i64 a.kind) ∧ w'.cell? ⟨g, o + 1, none⟩ = some (.int .i64 a.num) ∧ w'.cell? ⟨g, o + 2, none⟩ = some (.int .i64 a.den) ∧ w'.cell? ⟨g, o + 3, none⟩ = some (.string ⟨a.str.toArray⟩) ∧ w'.cell? ⟨g, o + 4, none⟩ = some (.int .i64 b.kind) ∧ w'.cell? ⟨g, o + 5, none⟩ = some (.int .i64 b.num) ∧ w'.cell? ⟨g, o + 6, none⟩ = some (.int .i64 b.den) ∧ w'.cell? ⟨g, o + 7, none⟩ = some (.string ⟨b.str.toArray⟩) ∧ Below w.heap.size w w')
    (exact K.out _ (by assumption))
    (first | (go_at_call 136; refine (C.out _).mono ?_; rintro e w2 ⟨rfl, hb2⟩; have hB2 := below_keep hbd hb2))
  have HB2 := Lib.hid hB2
  clear hb2 hB2 hbd
  go_wp2
  go_ret
  exact ⟨rfl, HB2.out⟩
set_option maxHeartbeats 800000 in
theorem rkinds_16 (a b : Va) (g o cap : Nat) (w : World) (h : VaAt w g o a) (h' : VaAt w g (o + 4) b) :
    Calls Tryz.prog 100 #[.int .i64 16, .slice (some ⟨g, o, none⟩) 2 cap] w (RetV (.bool ((opS 16).kinds [a, b])) w) := by
  have K : Hid (∀ w', Below w.heap.size w w' → w'.cell? ⟨g, o, none⟩ = some (.int .i64 a.kind) ∧ w'.cell? ⟨g, o + 1, none⟩ = some (.int .i64 a.num) ∧ w'.cell? ⟨g, o + 2, none⟩ = some (.int .i64 a.den) ∧ w'.cell? ⟨g, o + 3, none⟩ = some (.string ⟨a.str.toArray⟩) ∧ w'.cell? ⟨g, o + 4, none⟩ = some (.int .i64 b.kind) ∧ w'.cell? ⟨g, o + 5, none⟩ = some (.int .i64 b.num) ∧ w'.cell? ⟨g, o + 6, none⟩ = some (.int .i64 b.den) ∧ w'.cell? ⟨g, o + 7, none⟩ = some (.string ⟨b.str.toArray⟩) ∧ Below w.heap.size w w') := fun w1 hb =>
    let b1 := h.later' hb; let b2 := h'.later' hb
    ⟨b1.kind, b1.num, b1.den, b1.str, b2.kind, b2.num, b2.den, b2.str, hb⟩
  have e : (opS 16).kinds [a, b] = alikeV a b := rfl
  rw [e]
  obtain ⟨k0, k1, k2, k3, k4, k5, k6, k7, -⟩ := K.out w (Below.refl _ _)
  clear e h h'
  have C := Lib.hid (fun w1 => ralike_any a b w1)
  have hbd : Below w.heap.size w w.drew := (Below.refl _ _).drew
  go_enter Tryz.func100, Tryz.ntmps100
  go_wp2_with fail
  go_region_held3 (fun w' => w'.cell? ⟨g, o, none⟩ = some (.int .i64 a.kind) ∧ w'.cell? ⟨g, o + 1, none⟩ = some (.int .i64 a.num) ∧ w'.cell? ⟨g, o + 2, none⟩ = some (.int .i64 a.den) ∧ w'.cell? ⟨g, o + 3, none⟩ = some (.string ⟨a.str.toArray⟩) ∧ w'.cell? ⟨g, o + 4, none⟩ = some (.int .i64 b.kind) ∧ w'.cell? ⟨g, o + 5, none⟩ = some (.int .i64 b.num) ∧ w'.cell? ⟨g, o + 6, none⟩ = some (.int .i64 b.den) ∧ w'.cell? ⟨g, o + 7, none⟩ = some (.string ⟨b.str.toArray⟩) ∧ Below w.heap.size w w')
    (exact K.out _ (by assumption))
    (first | (go_at_call 136; refine (C.out _).mono ?_; rintro e w2 ⟨rfl, hb2⟩; have hB2 := below_keep hbd hb2))
  have HB2 := Lib.hid hB2
  clear hb2 hB2 hbd
  go_wp2
  go_ret
  exact ⟨rfl, HB2.out⟩
set_option maxHeartbeats 800000 in
theorem rkinds_17 (a b : Va) (g o cap : Nat) (w : World) (h : VaAt w g o a) (h' : VaAt w g (o + 4) b) :
    Calls Tryz.prog 100 #[.int .i64 17, .slice (some ⟨g, o, none⟩) 2 cap] w (RetV (.bool ((opS 17).kinds [a, b])) w) := by
  have K : Hid (∀ w', Below w.heap.size w w' → w'.cell? ⟨g, o, none⟩ = some (.int .i64 a.kind) ∧ w'.cell? ⟨g, o + 1, none⟩ = some (.int .i64 a.num) ∧ w'.cell? ⟨g, o + 2, none⟩ = some (.int .i64 a.den) ∧ w'.cell? ⟨g, o + 3, none⟩ = some (.string ⟨a.str.toArray⟩) ∧ w'.cell? ⟨g, o + 4, none⟩ = some (.int .i64 b.kind) ∧ w'.cell? ⟨g, o + 5, none⟩ = some (.int .i64 b.num) ∧ w'.cell? ⟨g, o + 6, none⟩ = some (.int .i64 b.den) ∧ w'.cell? ⟨g, o + 7, none⟩ = some (.string ⟨b.str.toArray⟩) ∧ Below w.heap.size w w') := fun w1 hb =>
    let b1 := h.later' hb; let b2 := h'.later' hb
    ⟨b1.kind, b1.num, b1.den, b1.str, b2.kind, b2.num, b2.den, b2.str, hb⟩
  have e : (opS 17).kinds [a, b] = alikeV a b := rfl
  rw [e]
  obtain ⟨k0, k1, k2, k3, k4, k5, k6, k7, -⟩ := K.out w (Below.refl _ _)
  clear e h h'
  have C := Lib.hid (fun w1 => ralike_any a b w1)
  have hbd : Below w.heap.size w w.drew := (Below.refl _ _).drew
  go_enter Tryz.func100, Tryz.ntmps100
  go_wp2_with fail
  go_region_held3 (fun w' => w'.cell? ⟨g, o, none⟩ = some (.int .i64 a.kind) ∧ w'.cell? ⟨g, o + 1, none⟩ = some (.int .i64 a.num) ∧ w'.cell? ⟨g, o + 2, none⟩ = some (.int .i64 a.den) ∧ w'.cell? ⟨g, o + 3, none⟩ = some (.string ⟨a.str.toArray⟩) ∧ w'.cell? ⟨g, o + 4, none⟩ = some (.int .i64 b.kind) ∧ w'.cell? ⟨g, o + 5, none⟩ = some (.int .i64 b.num) ∧ w'.cell? ⟨g, o + 6, none⟩ = some (.int .i64 b.den) ∧ w'.cell? ⟨g, o + 7, none⟩ = some (.string ⟨b.str.toArray⟩) ∧ Below w.heap.size w w')
    (exact K.out _ (by assumption))
    (first | (go_at_call 136; refine (C.out _).mono ?_; rintro e w2 ⟨rfl, hb2⟩; have hB2 := below_keep hbd hb2))
  have HB2 := Lib.hid hB2
  clear hb2 hB2 hbd
  go_wp2
  go_ret
  exact ⟨rfl, HB2.out⟩
set_option maxHeartbeats 800000 in
theorem rkinds_18 (a b : Va) (g o cap : Nat) (w : World) (h : VaAt w g o a) (h' : VaAt w g (o + 4) b) :
    Calls Tryz.prog 100 #[.int .i64 18, .slice (some ⟨g, o, none⟩) 2 cap] w (RetV (.bool ((opS 18).kinds [a, b])) w) := by
  have K : Hid (∀ w', Below w.heap.size w w' → w'.cell? ⟨g, o, none⟩ = some (.int .i64 a.kind) ∧ w'.cell? ⟨g, o + 1, none⟩ = some (.int .i64 a.num) ∧ w'.cell? ⟨g, o + 2, none⟩ = some (.int .i64 a.den) ∧ w'.cell? ⟨g, o + 3, none⟩ = some (.string ⟨a.str.toArray⟩) ∧ w'.cell? ⟨g, o + 4, none⟩ = some (.int .i64 b.kind) ∧ w'.cell? ⟨g, o + 5, none⟩ = some (.int .i64 b.num) ∧ w'.cell? ⟨g, o + 6, none⟩ = some (.int .i64 b.den) ∧ w'.cell? ⟨g, o + 7, none⟩ = some (.string ⟨b.str.toArray⟩) ∧ Below w.heap.size w w') := fun w1 hb =>
    let b1 := h.later' hb; let b2 := h'.later' hb
    ⟨b1.kind, b1.num, b1.den, b1.str, b2.kind, b2.num, b2.den, b2.str, hb⟩
  have e : (opS 18).kinds [a, b] = alikeV a b := rfl
  rw [e]
  obtain ⟨k0, k1, k2, k3, k4, k5, k6, k7, -⟩ := K.out w (Below.refl _ _)
  clear e h h'
  have C := Lib.hid (fun w1 => ralike_any a b w1)
  have hbd : Below w.heap.size w w.drew := (Below.refl _ _).drew
  go_enter Tryz.func100, Tryz.ntmps100
  go_wp2_with fail
  go_region_held3 (fun w' => w'.cell? ⟨g, o, none⟩ = some (.int .i64 a.kind) ∧ w'.cell? ⟨g, o + 1, none⟩ = some (.int .i64 a.num) ∧ w'.cell? ⟨g, o + 2, none⟩ = some (.int .i64 a.den) ∧ w'.cell? ⟨g, o + 3, none⟩ = some (.string ⟨a.str.toArray⟩) ∧ w'.cell? ⟨g, o + 4, none⟩ = some (.int .i64 b.kind) ∧ w'.cell? ⟨g, o + 5, none⟩ = some (.int .i64 b.num) ∧ w'.cell? ⟨g, o + 6, none⟩ = some (.int .i64 b.den) ∧ w'.cell? ⟨g, o + 7, none⟩ = some (.string ⟨b.str.toArray⟩) ∧ Below w.heap.size w w')
    (exact K.out _ (by assumption))
    (first | (go_at_call 136; refine (C.out _).mono ?_; rintro e w2 ⟨rfl, hb2⟩; have hB2 := below_keep hbd hb2))
  have HB2 := Lib.hid hB2
  clear hb2 hB2 hbd
  go_wp2
  go_ret
  exact ⟨rfl, HB2.out⟩
set_option maxHeartbeats 800000 in
theorem rkinds_21 (a b : Va) (g o cap : Nat) (w : World) (h : VaAt w g o a) (h' : VaAt w g (o + 4) b) :
    Calls Tryz.prog 100 #[.int .i64 21, .slice (some ⟨g, o, none⟩) 2 cap] w (RetV (.bool ((opS 21).kinds [a, b])) w) := by
  have K : Hid (∀ w', Below w.heap.size w w' → w'.cell? ⟨g, o, none⟩ = some (.int .i64 a.kind) ∧ w'.cell? ⟨g, o + 1, none⟩ = some (.int .i64 a.num) ∧ w'.cell? ⟨g, o + 2, none⟩ = some (.int .i64 a.den) ∧ w'.cell? ⟨g, o + 3, none⟩ = some (.string ⟨a.str.toArray⟩) ∧ w'.cell? ⟨g, o + 4, none⟩ = some (.int .i64 b.kind) ∧ w'.cell? ⟨g, o + 5, none⟩ = some (.int .i64 b.num) ∧ w'.cell? ⟨g, o + 6, none⟩ = some (.int .i64 b.den) ∧ w'.cell? ⟨g, o + 7, none⟩ = some (.string ⟨b.str.toArray⟩) ∧ Below w.heap.size w w') := fun w1 hb =>
    let b1 := h.later' hb; let b2 := h'.later' hb
    ⟨b1.kind, b1.num, b1.den, b1.str, b2.kind, b2.num, b2.den, b2.str, hb⟩
  have e : (opS 21).kinds [a, b] = alikeV a b := rfl
  rw [e]
  obtain ⟨k0, k1, k2, k3, k4, k5, k6, k7, -⟩ := K.out w (Below.refl _ _)
  clear e h h'
  have C := Lib.hid (fun w1 => ralike_any a b w1)
  have hbd : Below w.heap.size w w.drew := (Below.refl _ _).drew
  go_enter Tryz.func100, Tryz.ntmps100
  go_wp2_with fail
  go_region_held3 (fun w' => w'.cell? ⟨g, o, none⟩ = some (.int .i64 a.kind) ∧ w'.cell? ⟨g, o + 1, none⟩ = some (.int .i64 a.num) ∧ w'.cell? ⟨g, o + 2, none⟩ = some (.int .i64 a.den) ∧ w'.cell? ⟨g, o + 3, none⟩ = some (.string ⟨a.str.toArray⟩) ∧ w'.cell? ⟨g, o + 4, none⟩ = some (.int .i64 b.kind) ∧ w'.cell? ⟨g, o + 5, none⟩ = some (.int .i64 b.num) ∧ w'.cell? ⟨g, o + 6, none⟩ = some (.int .i64 b.den) ∧ w'.cell? ⟨g, o + 7, none⟩ = some (.string ⟨b.str.toArray⟩) ∧ Below w.heap.size w w')
    (exact K.out _ (by assumption))
    (first | (go_at_call 136; refine (C.out _).mono ?_; rintro e w2 ⟨rfl, hb2⟩; have hB2 := below_keep hbd hb2))
  have HB2 := Lib.hid hB2
  clear hb2 hB2 hbd
  go_wp2
  go_ret
  exact ⟨rfl, HB2.out⟩

set_option maxHeartbeats 1600000 in
theorem rkinds_22y (a b c : Va) (g o cap : Nat) (w : World) (h : VaAt w g o a) (h' : VaAt w g (o + 4) b) (h9 : VaAt w g (o + 8) c) (ha : isK a 1 = true) :
    Calls Tryz.prog 100 #[.int .i64 22, .slice (some ⟨g, o, none⟩) 3 cap] w (RetV (.bool ((opS 22).kinds [a, b, c])) w) := by
  have K : Hid (∀ w', Below w.heap.size w w' → w'.cell? ⟨g, o, none⟩ = some (.int .i64 a.kind) ∧ w'.cell? ⟨g, o + 1, none⟩ = some (.int .i64 a.num) ∧ w'.cell? ⟨g, o + 2, none⟩ = some (.int .i64 a.den) ∧ w'.cell? ⟨g, o + 3, none⟩ = some (.string ⟨a.str.toArray⟩) ∧ w'.cell? ⟨g, o + 4, none⟩ = some (.int .i64 b.kind) ∧ w'.cell? ⟨g, o + 5, none⟩ = some (.int .i64 b.num) ∧ w'.cell? ⟨g, o + 6, none⟩ = some (.int .i64 b.den) ∧ w'.cell? ⟨g, o + 7, none⟩ = some (.string ⟨b.str.toArray⟩) ∧ w'.cell? ⟨g, o + 8, none⟩ = some (.int .i64 c.kind) ∧ w'.cell? ⟨g, o + 9, none⟩ = some (.int .i64 c.num) ∧ w'.cell? ⟨g, o + 10, none⟩ = some (.int .i64 c.den) ∧ w'.cell? ⟨g, o + 11, none⟩ = some (.string ⟨c.str.toArray⟩) ∧ Below w.heap.size w w') := fun w1 hb =>
    let b1 := h.later' hb; let b2 := h'.later' hb; let b3 := h9.later' hb
    ⟨b1.kind, b1.num, b1.den, b1.str, b2.kind, b2.num, b2.den, b2.str, b3.kind, b3.num, b3.den, b3.str, hb⟩
  have e : (opS 22).kinds [a, b, c] = alikeV b c := by show (isK a 1 && alikeV b c) = _; rw [ha]; rfl
  rw [e]
  obtain ⟨k0, k1, k2, k3, k4, k5, k6, k7, k8, k9, k10, k11, -⟩ := K.out w (Below.refl _ _)
  have C := fun w1 => rof_any a 1 w1
  rw [ha] at C
  have C := Lib.hid C
  rename_i C'
  have D := Lib.hid (fun w1 => ralike_any b c w1)
  have hbd : Below w.heap.size w w.drew := (Below.refl _ _).drew
  clear e h h' h9 C' ha
  go_enter Tryz.func100, Tryz.ntmps100
  go_wp2_with fail
  go_region_held3 (fun w' => w'.cell? ⟨g, o, none⟩ = some (.int .i64 a.kind) ∧ w'.cell? ⟨g, o + 1, none⟩ = some (.int .i64 a.num) ∧ w'.cell? ⟨g, o + 2, none⟩ = some (.int .i64 a.den) ∧ w'.cell? ⟨g, o + 3, none⟩ = some (.string ⟨a.str.toArray⟩) ∧ w'.cell? ⟨g, o + 4, none⟩ = some (.int .i64 b.kind) ∧ w'.cell? ⟨g, o + 5, none⟩ = some (.int .i64 b.num) ∧ w'.cell? ⟨g, o + 6, none⟩ = some (.int .i64 b.den) ∧ w'.cell? ⟨g, o + 7, none⟩ = some (.string ⟨b.str.toArray⟩) ∧ w'.cell? ⟨g, o + 8, none⟩ = some (.int .i64 c.kind) ∧ w'.cell? ⟨g, o + 9, none⟩ = some (.int .i64 c.num) ∧ w'.cell? ⟨g, o + 10, none⟩ = some (.int .i64 c.den) ∧ w'.cell? ⟨g, o + 11, none⟩ = some (.string ⟨c.str.toArray⟩) ∧ Below w.heap.size w w')
    (exact K.out _ (by assumption))
    (first
      | (go_at_call 135; refine (C.out _).mono ?_; rintro e w2 ⟨rfl, hb2⟩; have hB2 := below_keep hbd hb2)
      | (go_at_call 136; refine (D.out _).mono ?_; rintro e w3 ⟨rfl, hb3⟩; have hB3 := below_keep hB2 hb3))
  have HB2 := Lib.hid hB3
  clear hb2 hB2 hbd hb3 hB3
  go_wp2
  go_ret
  exact ⟨rfl, HB2.out⟩
set_option maxHeartbeats 1600000 in
theorem rkinds_22n (a b c : Va) (g o cap : Nat) (w : World) (h : VaAt w g o a) (_ : VaAt w g (o + 4) b) (_ : VaAt w g (o + 8) c) (ha : isK a 1 = false) :
    Calls Tryz.prog 100 #[.int .i64 22, .slice (some ⟨g, o, none⟩) 3 cap] w (RetV (.bool ((opS 22).kinds [a, b, c])) w) := by
  have e : (opS 22).kinds [a, b, c] = false := by show (isK a 1 && alikeV b c) = _; rw [ha]; rfl
  rw [e]
  obtain ⟨k0, k1, k2, k3⟩ := h
  have C := fun w1 => rof_any a 1 w1
  rw [ha] at C
  have C := Lib.hid C
  rename_i C'
  clear e C' ha
  go_enter Tryz.func100, Tryz.ntmps100
  go_wp2_with fail
  first | go_region_with (go_at_call 135; refine (C.out _).mono ?_; rintro e w2 ⟨rfl, hb2⟩) | fail
  all_goals
    go_wp2
    go_ret
    exact ⟨rfl, Below.trans ((Below.refl _ _).drew) hb2⟩
set_option maxRecDepth 100000 in
theorem rkinds_any (op : Int) (l : List Va) (v : Value) (w : World) (hv : VaL w v l) (h : knownOp op l.length = true) :
    Calls Tryz.prog 100 #[.int .i64 op, v] w (RetV (.bool ((opS op.toNat).kinds l)) w) := by
  unfold knownOp at h
  rw [Bool.and_eq_true, decide_eq_true_eq, decide_eq_true_eq] at h
  obtain ⟨hr, hn⟩ := h
  rcases op_ways hr with rfl | rfl | rfl | rfl | rfl | rfl | rfl | rfl | rfl | rfl | rfl | rfl | rfl | rfl | rfl | rfl | rfl | rfl | rfl
  · have hn : l.length = 1 := hn.symm
    obtain ⟨a, rfl⟩ := len1 hn
    obtain ⟨g, o, n, cap, rfl, h0, -, -⟩ := hv.first
    obtain rfl : n = 0 := by
      obtain ⟨g', o', cap', e, -⟩ := hv
      injection e with _ e2 _
      simpa using e2
    exact rkinds_4 a g o cap w h0
  · have hn : l.length = 1 := hn.symm
    obtain ⟨a, rfl⟩ := len1 hn
    obtain ⟨g, o, n, cap, rfl, h0, -, -⟩ := hv.first
    obtain rfl : n = 0 := by
      obtain ⟨g', o', cap', e, -⟩ := hv
      injection e with _ e2 _
      simpa using e2
    exact rkinds_5 a g o cap w h0
  · have hn : l.length = 1 := hn.symm
    obtain ⟨a, rfl⟩ := len1 hn
    obtain ⟨g, o, n, cap, rfl, h0, -, -⟩ := hv.first
    obtain rfl : n = 0 := by
      obtain ⟨g', o', cap', e, -⟩ := hv
      injection e with _ e2 _
      simpa using e2
    exact rkinds_6 a g o cap w h0
  · have hn : l.length = 1 := hn.symm
    obtain ⟨a, rfl⟩ := len1 hn
    obtain ⟨g, o, n, cap, rfl, h0, -, -⟩ := hv.first
    obtain rfl : n = 0 := by
      obtain ⟨g', o', cap', e, -⟩ := hv
      injection e with _ e2 _
      simpa using e2
    exact rkinds_7 a g o cap w
  · have hn : l.length = 1 := hn.symm
    obtain ⟨a, rfl⟩ := len1 hn
    obtain ⟨g, o, n, cap, rfl, h0, -, -⟩ := hv.first
    obtain rfl : n = 0 := by
      obtain ⟨g', o', cap', e, -⟩ := hv
      injection e with _ e2 _
      simpa using e2
    exact rkinds_8 a g o cap w
  · have hn : l.length = 2 := hn.symm
    obtain ⟨a, b, rfl⟩ := len2 hn
    obtain ⟨g, o, cap, rfl, h0, h1, -, -⟩ := hv.two
    exact rkinds_9 a b g o cap w h0 h1
  · have hn : l.length = 2 := hn.symm
    obtain ⟨a, b, rfl⟩ := len2 hn
    obtain ⟨g, o, cap, rfl, h0, h1, -, -⟩ := hv.two
    exact rkinds_10 a b g o cap w h0 h1
  · have hn : l.length = 2 := hn.symm
    obtain ⟨a, b, rfl⟩ := len2 hn
    obtain ⟨g, o, cap, rfl, h0, h1, -, -⟩ := hv.two
    exact rkinds_11 a b g o cap w h0 h1
  · have hn : l.length = 2 := hn.symm
    obtain ⟨a, b, rfl⟩ := len2 hn
    obtain ⟨g, o, cap, rfl, h0, h1, -, -⟩ := hv.two
    exact rkinds_12 a b g o cap w h0 h1
  · have hn : l.length = 2 := hn.symm
    obtain ⟨a, b, rfl⟩ := len2 hn
    obtain ⟨g, o, cap, rfl, h0, h1, -, -⟩ := hv.two
    exact rkinds_13 a b g o cap w h0 h1
  · have hn : l.length = 2 := hn.symm
    obtain ⟨a, b, rfl⟩ := len2 hn
    obtain ⟨g, o, cap, rfl, h0, h1, -, -⟩ := hv.two
    exact rkinds_14 a b g o cap w h0 h1
  · have hn : l.length = 2 := hn.symm
    obtain ⟨a, b, rfl⟩ := len2 hn
    obtain ⟨g, o, cap, rfl, h0, h1, -, -⟩ := hv.two
    exact rkinds_15 a b g o cap w h0 h1
  · have hn : l.length = 2 := hn.symm
    obtain ⟨a, b, rfl⟩ := len2 hn
    obtain ⟨g, o, cap, rfl, h0, h1, -, -⟩ := hv.two
    exact rkinds_16 a b g o cap w h0 h1
  · have hn : l.length = 2 := hn.symm
    obtain ⟨a, b, rfl⟩ := len2 hn
    obtain ⟨g, o, cap, rfl, h0, h1, -, -⟩ := hv.two
    exact rkinds_17 a b g o cap w h0 h1
  · have hn : l.length = 2 := hn.symm
    obtain ⟨a, b, rfl⟩ := len2 hn
    obtain ⟨g, o, cap, rfl, h0, h1, -, -⟩ := hv.two
    exact rkinds_18 a b g o cap w h0 h1
  · have hn : l.length = 2 := hn.symm
    obtain ⟨a, b, rfl⟩ := len2 hn
    obtain ⟨g, o, cap, rfl, h0, h1, -, -⟩ := hv.two
    exact rkinds_19 a b g o cap w h0 h1
  · have hn : l.length = 2 := hn.symm
    obtain ⟨a, b, rfl⟩ := len2 hn
    obtain ⟨g, o, cap, rfl, h0, h1, -, -⟩ := hv.two
    exact rkinds_20 a b g o cap w h0 h1
  · have hn : l.length = 2 := hn.symm
    obtain ⟨a, b, rfl⟩ := len2 hn
    obtain ⟨g, o, cap, rfl, h0, h1, -, -⟩ := hv.two
    exact rkinds_21 a b g o cap w h0 h1
  · have hn : l.length = 3 := hn.symm
    obtain ⟨a, b, c, rfl⟩ := len3 hn
    obtain ⟨g, o, cap, rfl, h0, h1, h2, -, -⟩ := hv.three
    cases ha : isK a 1 with
    | true => exact rkinds_22y a b c g o cap w h0 h1 h2 ha
    | false => exact rkinds_22n a b c g o cap w h0 h1 h2 ha
end Go.Proofs.YtemhidlaaommaaaGreatDoor
