/- The reference's types of operations: contracts of operands, numeric, shared, typed, Type. -/
import Derived.Deep.QuietTactic
import Derived.Test.YtemhidlaaommaaaGreatDoorD8
namespace Go.Proofs.YtemhidlaaommaaaGreatDoor
open Go.RowKit

def operN (op : Int) : Nat := if 4 ≤ op ∧ op ≤ 22 then (opS op.toNat).n else 0
theorem op_ways {op : Int} (h : 4 ≤ op ∧ op ≤ 22) : op = 4 ∨ op = 5 ∨ op = 6 ∨ op = 7 ∨ op = 8 ∨ op = 9 ∨ op = 10 ∨ op = 11 ∨ op = 12 ∨ op = 13 ∨ op = 14 ∨ op = 15 ∨ op = 16 ∨ op = 17 ∨ op = 18 ∨ op = 19 ∨ op = 20 ∨ op = 21 ∨ op = 22 := by omega
theorem operands_any (op : Int) (w : World) :
    Calls Tryz.prog 99 #[.int .i64 op] w fun e w' => e = .returned (.int .i64 (operN op : Nat)) ∧ w = w' := by
  by_cases h : 4 ≤ op ∧ op ≤ 22
  · rcases op_ways h with rfl | rfl | rfl | rfl | rfl | rfl | rfl | rfl | rfl | rfl | rfl | rfl | rfl | rfl | rfl | rfl | rfl | rfl | rfl
    all_goals
      clear h
      go_enter Tryz.func99, Tryz.ntmps99
      go_wp2
      go_ret
      exact ⟨rfl, rfl⟩
  · have e : operN op = 0 := by unfold operN; rw [if_neg h]
    rw [e]
    clear e
    rcases (by omega : op < 4 ∨ 22 < op) with h1 | h1
    · have h2 : decide ((4 : Int) ≤ op) = false := by rw [decide_eq_false_iff_not]; omega
      have h3 : decide ((9 : Int) ≤ op) = false := by rw [decide_eq_false_iff_not]; omega
      have h6 : (op == (22 : Int)) = false := by rw [beq_eq_false_iff_ne]; omega
      clear h h1
      go_enter Tryz.func99, Tryz.ntmps99
      go_wp2
      go_ret
      exact ⟨rfl, rfl⟩
    · have h2 : decide ((4 : Int) ≤ op) = true := by rw [decide_eq_true_eq]; omega
      have h3 : decide ((9 : Int) ≤ op) = true := by rw [decide_eq_true_eq]; omega
      have h4 : decide (op ≤ (8 : Int)) = false := by rw [decide_eq_false_iff_not]; omega
      have h5 : decide (op ≤ (21 : Int)) = false := by rw [decide_eq_false_iff_not]; omega
      have h6 : (op == (22 : Int)) = false := by rw [beq_eq_false_iff_ne]; omega
      clear h h1
      go_enter Tryz.func99, Tryz.ntmps99
      go_wp2
      go_ret
      exact ⟨rfl, rfl⟩
theorem rnumeric_any (t : Int) (w : World) :
    Calls Tryz.prog 137 #[.int .i64 t] w fun e w' => e = .returned (.bool (numT t)) ∧ w = w' := by
  by_cases h : t = 2
  · subst h
    go_enter Tryz.func137, Tryz.ntmps137
    go_wp2
    go_ret
    exact ⟨rfl, rfl⟩
  · have h1 : (t == (2 : Int)) = false := by rw [beq_eq_false_iff_ne]; exact h
    have h2 : Hid ((t == (3 : Int)) = numT t) := by show _ = _; unfold numT; rw [Bool.eq_iff_iff]; simp [h]
    clear h
    go_enter Tryz.func137, Tryz.ntmps137
    go_wp2
    go_ret
    exact ⟨congrArg (fun b => Ending.returned (.bool b)) h2.out, rfl⟩
theorem rshared_any (a b : Int) (w : World) :
    Calls Tryz.prog 138 #[.int .i64 a, .int .i64 b] w fun e w' => e = .returned (.int .i64 (commonT a b)) ∧ w = w' := by
  by_cases h : a = b
  · subst h
    have e : commonT a a = a := by simp [commonT]
    rw [e]; clear e
    have h1 : (a == a) = true := by simp
    go_enter Tryz.func138, Tryz.ntmps138
    go_wp2
    go_ret
    exact ⟨rfl, rfl⟩
  · have h1 : (a == b) = false := by rw [beq_eq_false_iff_ne]; exact h
    cases ha : numT a with
    | false =>
      have e : commonT a b = 0 := by simp [commonT, h, ha]
      rw [e]; clear e h
      go_enter Tryz.func138, Tryz.ntmps138
      go_wp2_with (go_at_call 137; refine (rnumeric_any _ _).mono ?_; rintro e w' ⟨rfl, rfl⟩)
      go_ret
      exact ⟨rfl, rfl⟩
    | true =>
      cases hb : numT b with
      | false =>
        have e : commonT a b = 0 := by simp [commonT, h, ha, hb]
        rw [e]; clear e h
        go_enter Tryz.func138, Tryz.ntmps138
        go_wp2_with (go_at_call 137; refine (rnumeric_any _ _).mono ?_; rintro e w' ⟨rfl, rfl⟩)
        go_ret
        exact ⟨rfl, rfl⟩
      | true =>
        have e : commonT a b = 3 := by simp [commonT, h, ha, hb]
        rw [e]; clear e h
        go_enter Tryz.func138, Tryz.ntmps138
        go_wp2_with (go_at_call 137; refine (rnumeric_any _ _).mono ?_; rintro e w' ⟨rfl, rfl⟩)
        go_ret
        exact ⟨rfl, rfl⟩

theorem num_common {a b : Int} (ha : numT a = true) (hb : numT b = true) : commonT a b ≠ 0 := by
  simp only [numT, decide_eq_true_eq] at ha hb
  unfold commonT; split
  · omega
  · simp [numT, ha, hb]
theorem num_common_r {a b : Int} (ha : numT a = true) (hb : numT b = false) : commonT a b = 0 := by
  unfold commonT
  rw [if_neg (fun e => by rw [e, hb] at ha; cases ha), hb]; simp
theorem bool_common (b : Int) : commonT 1 b = if b = 1 then 1 else 0 := by
  unfold commonT
  by_cases h : b = 1
  · subst h; rfl
  · rw [if_neg (fun e => h e.symm), if_neg h]; simp [numT]
set_option maxRecDepth 100000 in
theorem rtyped_4n (a : Int) (g o cap : Nat) (w : World) (h0 : w.cell? ⟨g, o, none⟩ = some (.int .i64 a)) (k : (a == (1 : Int)) = false) :
    Calls Tryz.prog 104 #[.int .i64 4, .slice (some ⟨g, o, none⟩) 1 cap] w (RetQ (.int .i64 ((opS 4).typed [a])) w) := by
  have e : (opS 4).typed [a] = 0 := by show boolT [a] = 0; rw [beq_eq_false_iff_ne] at k; simp [boolT, k]
  rw [e]
  clear e
  go_enter Tryz.func104, Tryz.ntmps104
  go_wp2_with (first | (go_at_call 137; refine (rnumeric_any _ _).mono ?_; rintro e w' ⟨rfl, rfl⟩) | (go_at_call 138; refine (rshared_any _ _ _).mono ?_; rintro e w' ⟨rfl, rfl⟩))
  repeat (go_quiet (exact (rshared_any _ _ _).mono fun _ _ ⟨he, hw⟩ => ⟨he, _, hw.symm⟩); go_wp2_with (first | (go_at_call 137; refine (rnumeric_any _ _).mono ?_; rintro e w' ⟨rfl, rfl⟩) | (go_at_call 138; refine (rshared_any _ _ _).mono ?_; rintro e w' ⟨rfl, rfl⟩)))
  go_ret
  first | exact ⟨rfl, 0, rfl⟩ | exact ⟨rfl, _, rfl⟩ | exact ⟨rfl, _, by rw [World.drewN_drewN]⟩
set_option maxRecDepth 100000 in
theorem rtyped_4y (a : Int) (g o cap : Nat) (w : World) (h0 : w.cell? ⟨g, o, none⟩ = some (.int .i64 a)) (k : a = 1) :
    Calls Tryz.prog 104 #[.int .i64 4, .slice (some ⟨g, o, none⟩) 1 cap] w (RetQ (.int .i64 ((opS 4).typed [a])) w) := by
  have e : (opS 4).typed [a] = 1 := by subst k; rfl
  rw [e]
  clear e
  go_enter Tryz.func104, Tryz.ntmps104
  go_wp2_with (first | (go_at_call 137; refine (rnumeric_any _ _).mono ?_; rintro e w' ⟨rfl, rfl⟩) | (go_at_call 138; refine (rshared_any _ _ _).mono ?_; rintro e w' ⟨rfl, rfl⟩))
  repeat (go_quiet (exact (rshared_any _ _ _).mono fun _ _ ⟨he, hw⟩ => ⟨he, _, hw.symm⟩); go_wp2_with (first | (go_at_call 137; refine (rnumeric_any _ _).mono ?_; rintro e w' ⟨rfl, rfl⟩) | (go_at_call 138; refine (rshared_any _ _ _).mono ?_; rintro e w' ⟨rfl, rfl⟩)))
  go_ret
  first | exact ⟨rfl, 0, rfl⟩ | exact ⟨rfl, _, rfl⟩ | exact ⟨rfl, _, by rw [World.drewN_drewN]⟩
theorem rtyped_4 (a : Int) (g o cap : Nat) (w : World) (h0 : w.cell? ⟨g, o, none⟩ = some (.int .i64 a)) :
    Calls Tryz.prog 104 #[.int .i64 4, .slice (some ⟨g, o, none⟩) 1 cap] w (RetQ (.int .i64 ((opS 4).typed [a])) w) := by
  by_cases k : a = 1
  · exact rtyped_4y a g o cap w h0 k
  · exact rtyped_4n a g o cap w h0 (by rw [beq_eq_false_iff_ne]; exact k)
set_option maxRecDepth 100000 in
theorem rtyped_5t (a : Int) (g o cap : Nat) (w : World) (h0 : w.cell? ⟨g, o, none⟩ = some (.int .i64 a)) (k : numT a = true) :
    Calls Tryz.prog 104 #[.int .i64 5, .slice (some ⟨g, o, none⟩) 1 cap] w (RetQ (.int .i64 ((opS 5).typed [a])) w) := by
  have e : (opS 5).typed [a] = a := by show number1T [a] = a; simp [number1T, k]
  rw [e]
  clear e
  go_enter Tryz.func104, Tryz.ntmps104
  go_wp2_with (first | (go_at_call 137; refine (rnumeric_any _ _).mono ?_; rintro e w' ⟨rfl, rfl⟩) | (go_at_call 138; refine (rshared_any _ _ _).mono ?_; rintro e w' ⟨rfl, rfl⟩))
  repeat (go_quiet (exact (rshared_any _ _ _).mono fun _ _ ⟨he, hw⟩ => ⟨he, _, hw.symm⟩); go_wp2_with (first | (go_at_call 137; refine (rnumeric_any _ _).mono ?_; rintro e w' ⟨rfl, rfl⟩) | (go_at_call 138; refine (rshared_any _ _ _).mono ?_; rintro e w' ⟨rfl, rfl⟩)))
  go_ret
  first | exact ⟨rfl, 0, rfl⟩ | exact ⟨rfl, _, rfl⟩ | exact ⟨rfl, _, by rw [World.drewN_drewN]⟩
set_option maxRecDepth 100000 in
theorem rtyped_5f (a : Int) (g o cap : Nat) (w : World) (h0 : w.cell? ⟨g, o, none⟩ = some (.int .i64 a)) (k : numT a = false) :
    Calls Tryz.prog 104 #[.int .i64 5, .slice (some ⟨g, o, none⟩) 1 cap] w (RetQ (.int .i64 ((opS 5).typed [a])) w) := by
  have e : (opS 5).typed [a] = 0 := by show number1T [a] = 0; simp [number1T, k]
  rw [e]
  clear e
  go_enter Tryz.func104, Tryz.ntmps104
  go_wp2_with (first | (go_at_call 137; refine (rnumeric_any _ _).mono ?_; rintro e w' ⟨rfl, rfl⟩) | (go_at_call 138; refine (rshared_any _ _ _).mono ?_; rintro e w' ⟨rfl, rfl⟩))
  repeat (go_quiet (exact (rshared_any _ _ _).mono fun _ _ ⟨he, hw⟩ => ⟨he, _, hw.symm⟩); go_wp2_with (first | (go_at_call 137; refine (rnumeric_any _ _).mono ?_; rintro e w' ⟨rfl, rfl⟩) | (go_at_call 138; refine (rshared_any _ _ _).mono ?_; rintro e w' ⟨rfl, rfl⟩)))
  go_ret
  first | exact ⟨rfl, 0, rfl⟩ | exact ⟨rfl, _, rfl⟩ | exact ⟨rfl, _, by rw [World.drewN_drewN]⟩
theorem rtyped_5 (a : Int) (g o cap : Nat) (w : World) (h0 : w.cell? ⟨g, o, none⟩ = some (.int .i64 a)) :
    Calls Tryz.prog 104 #[.int .i64 5, .slice (some ⟨g, o, none⟩) 1 cap] w (RetQ (.int .i64 ((opS 5).typed [a])) w) := by
  cases k : numT a with
  | true => exact rtyped_5t a g o cap w h0 k
  | false => exact rtyped_5f a g o cap w h0 k
set_option maxRecDepth 100000 in
theorem rtyped_6t (a : Int) (g o cap : Nat) (w : World) (h0 : w.cell? ⟨g, o, none⟩ = some (.int .i64 a)) (k : numT a = true) :
    Calls Tryz.prog 104 #[.int .i64 6, .slice (some ⟨g, o, none⟩) 1 cap] w (RetQ (.int .i64 ((opS 6).typed [a])) w) := by
  have e : (opS 6).typed [a] = 2 := by show min (number1T [a]) 2 = 2; simp only [numT, decide_eq_true_eq] at k; rcases k with rfl | rfl <;> rfl
  rw [e]
  clear e
  go_enter Tryz.func104, Tryz.ntmps104
  go_wp2_with (first | (go_at_call 137; refine (rnumeric_any _ _).mono ?_; rintro e w' ⟨rfl, rfl⟩) | (go_at_call 138; refine (rshared_any _ _ _).mono ?_; rintro e w' ⟨rfl, rfl⟩))
  repeat (go_quiet (exact (rshared_any _ _ _).mono fun _ _ ⟨he, hw⟩ => ⟨he, _, hw.symm⟩); go_wp2_with (first | (go_at_call 137; refine (rnumeric_any _ _).mono ?_; rintro e w' ⟨rfl, rfl⟩) | (go_at_call 138; refine (rshared_any _ _ _).mono ?_; rintro e w' ⟨rfl, rfl⟩)))
  go_ret
  first | exact ⟨rfl, 0, rfl⟩ | exact ⟨rfl, _, rfl⟩ | exact ⟨rfl, _, by rw [World.drewN_drewN]⟩
set_option maxRecDepth 100000 in
theorem rtyped_6f (a : Int) (g o cap : Nat) (w : World) (h0 : w.cell? ⟨g, o, none⟩ = some (.int .i64 a)) (k : numT a = false) :
    Calls Tryz.prog 104 #[.int .i64 6, .slice (some ⟨g, o, none⟩) 1 cap] w (RetQ (.int .i64 ((opS 6).typed [a])) w) := by
  have e : (opS 6).typed [a] = 0 := by show min (number1T [a]) 2 = 0; rw [show number1T [a] = 0 from by simp [number1T, k]]; rfl
  rw [e]
  clear e
  go_enter Tryz.func104, Tryz.ntmps104
  go_wp2_with (first | (go_at_call 137; refine (rnumeric_any _ _).mono ?_; rintro e w' ⟨rfl, rfl⟩) | (go_at_call 138; refine (rshared_any _ _ _).mono ?_; rintro e w' ⟨rfl, rfl⟩))
  repeat (go_quiet (exact (rshared_any _ _ _).mono fun _ _ ⟨he, hw⟩ => ⟨he, _, hw.symm⟩); go_wp2_with (first | (go_at_call 137; refine (rnumeric_any _ _).mono ?_; rintro e w' ⟨rfl, rfl⟩) | (go_at_call 138; refine (rshared_any _ _ _).mono ?_; rintro e w' ⟨rfl, rfl⟩)))
  go_ret
  first | exact ⟨rfl, 0, rfl⟩ | exact ⟨rfl, _, rfl⟩ | exact ⟨rfl, _, by rw [World.drewN_drewN]⟩
theorem rtyped_6 (a : Int) (g o cap : Nat) (w : World) (h0 : w.cell? ⟨g, o, none⟩ = some (.int .i64 a)) :
    Calls Tryz.prog 104 #[.int .i64 6, .slice (some ⟨g, o, none⟩) 1 cap] w (RetQ (.int .i64 ((opS 6).typed [a])) w) := by
  cases k : numT a with
  | true => exact rtyped_6t a g o cap w h0 k
  | false => exact rtyped_6f a g o cap w h0 k
set_option maxRecDepth 100000 in
theorem rtyped_7 (a : Int) (g o cap : Nat) (w : World) (_h0 : w.cell? ⟨g, o, none⟩ = some (.int .i64 a)) :
    Calls Tryz.prog 104 #[.int .i64 7, .slice (some ⟨g, o, none⟩) 1 cap] w (RetQ (.int .i64 ((opS 7).typed [a])) w) := by
  have e : (opS 7).typed [a] = 1 := by rfl
  rw [e]
  clear e
  go_enter Tryz.func104, Tryz.ntmps104
  go_wp2_with (first | (go_at_call 137; refine (rnumeric_any _ _).mono ?_; rintro e w' ⟨rfl, rfl⟩) | (go_at_call 138; refine (rshared_any _ _ _).mono ?_; rintro e w' ⟨rfl, rfl⟩))
  repeat (go_quiet (exact (rshared_any _ _ _).mono fun _ _ ⟨he, hw⟩ => ⟨he, _, hw.symm⟩); go_wp2_with (first | (go_at_call 137; refine (rnumeric_any _ _).mono ?_; rintro e w' ⟨rfl, rfl⟩) | (go_at_call 138; refine (rshared_any _ _ _).mono ?_; rintro e w' ⟨rfl, rfl⟩)))
  go_ret
  first | exact ⟨rfl, 0, rfl⟩ | exact ⟨rfl, _, rfl⟩ | exact ⟨rfl, _, by rw [World.drewN_drewN]⟩
set_option maxRecDepth 100000 in
theorem rtyped_8 (a : Int) (g o cap : Nat) (w : World) (_h0 : w.cell? ⟨g, o, none⟩ = some (.int .i64 a)) :
    Calls Tryz.prog 104 #[.int .i64 8, .slice (some ⟨g, o, none⟩) 1 cap] w (RetQ (.int .i64 ((opS 8).typed [a])) w) := by
  have e : (opS 8).typed [a] = 2 := by rfl
  rw [e]
  clear e
  go_enter Tryz.func104, Tryz.ntmps104
  go_wp2_with (first | (go_at_call 137; refine (rnumeric_any _ _).mono ?_; rintro e w' ⟨rfl, rfl⟩) | (go_at_call 138; refine (rshared_any _ _ _).mono ?_; rintro e w' ⟨rfl, rfl⟩))
  repeat (go_quiet (exact (rshared_any _ _ _).mono fun _ _ ⟨he, hw⟩ => ⟨he, _, hw.symm⟩); go_wp2_with (first | (go_at_call 137; refine (rnumeric_any _ _).mono ?_; rintro e w' ⟨rfl, rfl⟩) | (go_at_call 138; refine (rshared_any _ _ _).mono ?_; rintro e w' ⟨rfl, rfl⟩)))
  go_ret
  first | exact ⟨rfl, 0, rfl⟩ | exact ⟨rfl, _, rfl⟩ | exact ⟨rfl, _, by rw [World.drewN_drewN]⟩
set_option maxRecDepth 100000 in
theorem rtyped_9f (a b : Int) (g o cap : Nat) (w : World) (h0 : w.cell? ⟨g, o, none⟩ = some (.int .i64 a)) (_h1 : w.cell? ⟨g, o + 1, none⟩ = some (.int .i64 b)) (k : numT a = false) :
    Calls Tryz.prog 104 #[.int .i64 9, .slice (some ⟨g, o, none⟩) 2 cap] w (RetQ (.int .i64 ((opS 9).typed [a, b])) w) := by
  have e : (opS 9).typed [a, b] = 0 := by show sumsT [a, b] = 0; simp [sumsT, sumsT, k]
  rw [e]
  clear e
  go_enter Tryz.func104, Tryz.ntmps104
  go_wp2_with (first | (go_at_call 137; refine (rnumeric_any _ _).mono ?_; rintro e w' ⟨rfl, rfl⟩) | (go_at_call 138; refine (rshared_any _ _ _).mono ?_; rintro e w' ⟨rfl, rfl⟩))
  repeat (go_quiet (exact (rshared_any _ _ _).mono fun _ _ ⟨he, hw⟩ => ⟨he, _, hw.symm⟩); go_wp2_with (first | (go_at_call 137; refine (rnumeric_any _ _).mono ?_; rintro e w' ⟨rfl, rfl⟩) | (go_at_call 138; refine (rshared_any _ _ _).mono ?_; rintro e w' ⟨rfl, rfl⟩)))
  go_ret
  first | exact ⟨rfl, 0, rfl⟩ | exact ⟨rfl, _, rfl⟩ | exact ⟨rfl, _, by rw [World.drewN_drewN]⟩
set_option maxRecDepth 100000 in
theorem rtyped_9tf (a b : Int) (g o cap : Nat) (w : World) (h0 : w.cell? ⟨g, o, none⟩ = some (.int .i64 a)) (h1 : w.cell? ⟨g, o + 1, none⟩ = some (.int .i64 b)) (k : numT a = true) (k2 : numT b = false) :
    Calls Tryz.prog 104 #[.int .i64 9, .slice (some ⟨g, o, none⟩) 2 cap] w (RetQ (.int .i64 ((opS 9).typed [a, b])) w) := by
  have e : (opS 9).typed [a, b] = 0 := by show sumsT [a, b] = 0; simp [sumsT, k, lastCommon, num_common_r k k2]
  rw [e]
  clear e
  go_enter Tryz.func104, Tryz.ntmps104
  go_wp2_with (first | (go_at_call 137; refine (rnumeric_any _ _).mono ?_; rintro e w' ⟨rfl, rfl⟩) | (go_at_call 138; refine (rshared_any _ _ _).mono ?_; rintro e w' ⟨rfl, rfl⟩))
  repeat (go_quiet (exact (rshared_any _ _ _).mono fun _ _ ⟨he, hw⟩ => ⟨he, _, hw.symm⟩); go_wp2_with (first | (go_at_call 137; refine (rnumeric_any _ _).mono ?_; rintro e w' ⟨rfl, rfl⟩) | (go_at_call 138; refine (rshared_any _ _ _).mono ?_; rintro e w' ⟨rfl, rfl⟩)))
  go_ret
  first | exact ⟨rfl, 0, rfl⟩ | exact ⟨rfl, _, rfl⟩ | exact ⟨rfl, _, by rw [World.drewN_drewN]⟩
set_option maxRecDepth 100000 in
theorem rtyped_9tt (a b : Int) (g o cap : Nat) (w : World) (h0 : w.cell? ⟨g, o, none⟩ = some (.int .i64 a)) (h1 : w.cell? ⟨g, o + 1, none⟩ = some (.int .i64 b)) (k : numT a = true) (k2 : numT b = true) :
    Calls Tryz.prog 104 #[.int .i64 9, .slice (some ⟨g, o, none⟩) 2 cap] w (RetQ (.int .i64 ((opS 9).typed [a, b])) w) := by
  have e : (opS 9).typed [a, b] = commonT a b := by show sumsT [a, b] = commonT a b; simp [sumsT, k, lastCommon]
  rw [e]
  clear e
  go_enter Tryz.func104, Tryz.ntmps104
  go_wp2_with (first | (go_at_call 137; refine (rnumeric_any _ _).mono ?_; rintro e w' ⟨rfl, rfl⟩) | (go_at_call 138; refine (rshared_any _ _ _).mono ?_; rintro e w' ⟨rfl, rfl⟩))
  repeat (go_quiet (exact (rshared_any _ _ _).mono fun _ _ ⟨he, hw⟩ => ⟨he, _, hw.symm⟩); go_wp2_with (first | (go_at_call 137; refine (rnumeric_any _ _).mono ?_; rintro e w' ⟨rfl, rfl⟩) | (go_at_call 138; refine (rshared_any _ _ _).mono ?_; rintro e w' ⟨rfl, rfl⟩)))
  go_ret
  first | exact ⟨rfl, 0, rfl⟩ | exact ⟨rfl, _, rfl⟩ | exact ⟨rfl, _, by rw [World.drewN_drewN]⟩
theorem rtyped_9 (a b : Int) (g o cap : Nat) (w : World) (h0 : w.cell? ⟨g, o, none⟩ = some (.int .i64 a)) (h1 : w.cell? ⟨g, o + 1, none⟩ = some (.int .i64 b)) :
    Calls Tryz.prog 104 #[.int .i64 9, .slice (some ⟨g, o, none⟩) 2 cap] w (RetQ (.int .i64 ((opS 9).typed [a, b])) w) := by
  cases k : numT a with
  | false => exact rtyped_9f a b g o cap w h0 h1 k
  | true =>
    cases k2 : numT b with
    | false => exact rtyped_9tf a b g o cap w h0 h1 k k2
    | true => exact rtyped_9tt a b g o cap w h0 h1 k k2
set_option maxRecDepth 100000 in
theorem rtyped_10f (a b : Int) (g o cap : Nat) (w : World) (h0 : w.cell? ⟨g, o, none⟩ = some (.int .i64 a)) (_h1 : w.cell? ⟨g, o + 1, none⟩ = some (.int .i64 b)) (k : numT a = false) :
    Calls Tryz.prog 104 #[.int .i64 10, .slice (some ⟨g, o, none⟩) 2 cap] w (RetQ (.int .i64 ((opS 10).typed [a, b])) w) := by
  have e : (opS 10).typed [a, b] = 0 := by show sumsT [a, b] = 0; simp [sumsT, sumsT, k]
  rw [e]
  clear e
  go_enter Tryz.func104, Tryz.ntmps104
  go_wp2_with (first | (go_at_call 137; refine (rnumeric_any _ _).mono ?_; rintro e w' ⟨rfl, rfl⟩) | (go_at_call 138; refine (rshared_any _ _ _).mono ?_; rintro e w' ⟨rfl, rfl⟩))
  repeat (go_quiet (exact (rshared_any _ _ _).mono fun _ _ ⟨he, hw⟩ => ⟨he, _, hw.symm⟩); go_wp2_with (first | (go_at_call 137; refine (rnumeric_any _ _).mono ?_; rintro e w' ⟨rfl, rfl⟩) | (go_at_call 138; refine (rshared_any _ _ _).mono ?_; rintro e w' ⟨rfl, rfl⟩)))
  go_ret
  first | exact ⟨rfl, 0, rfl⟩ | exact ⟨rfl, _, rfl⟩ | exact ⟨rfl, _, by rw [World.drewN_drewN]⟩
set_option maxRecDepth 100000 in
theorem rtyped_10tf (a b : Int) (g o cap : Nat) (w : World) (h0 : w.cell? ⟨g, o, none⟩ = some (.int .i64 a)) (h1 : w.cell? ⟨g, o + 1, none⟩ = some (.int .i64 b)) (k : numT a = true) (k2 : numT b = false) :
    Calls Tryz.prog 104 #[.int .i64 10, .slice (some ⟨g, o, none⟩) 2 cap] w (RetQ (.int .i64 ((opS 10).typed [a, b])) w) := by
  have e : (opS 10).typed [a, b] = 0 := by show sumsT [a, b] = 0; simp [sumsT, k, lastCommon, num_common_r k k2]
  rw [e]
  clear e
  go_enter Tryz.func104, Tryz.ntmps104
  go_wp2_with (first | (go_at_call 137; refine (rnumeric_any _ _).mono ?_; rintro e w' ⟨rfl, rfl⟩) | (go_at_call 138; refine (rshared_any _ _ _).mono ?_; rintro e w' ⟨rfl, rfl⟩))
  repeat (go_quiet (exact (rshared_any _ _ _).mono fun _ _ ⟨he, hw⟩ => ⟨he, _, hw.symm⟩); go_wp2_with (first | (go_at_call 137; refine (rnumeric_any _ _).mono ?_; rintro e w' ⟨rfl, rfl⟩) | (go_at_call 138; refine (rshared_any _ _ _).mono ?_; rintro e w' ⟨rfl, rfl⟩)))
  go_ret
  first | exact ⟨rfl, 0, rfl⟩ | exact ⟨rfl, _, rfl⟩ | exact ⟨rfl, _, by rw [World.drewN_drewN]⟩
set_option maxRecDepth 100000 in
theorem rtyped_10tt (a b : Int) (g o cap : Nat) (w : World) (h0 : w.cell? ⟨g, o, none⟩ = some (.int .i64 a)) (h1 : w.cell? ⟨g, o + 1, none⟩ = some (.int .i64 b)) (k : numT a = true) (k2 : numT b = true) :
    Calls Tryz.prog 104 #[.int .i64 10, .slice (some ⟨g, o, none⟩) 2 cap] w (RetQ (.int .i64 ((opS 10).typed [a, b])) w) := by
  have e : (opS 10).typed [a, b] = commonT a b := by show sumsT [a, b] = commonT a b; simp [sumsT, k, lastCommon]
  rw [e]
  clear e
  go_enter Tryz.func104, Tryz.ntmps104
  go_wp2_with (first | (go_at_call 137; refine (rnumeric_any _ _).mono ?_; rintro e w' ⟨rfl, rfl⟩) | (go_at_call 138; refine (rshared_any _ _ _).mono ?_; rintro e w' ⟨rfl, rfl⟩))
  repeat (go_quiet (exact (rshared_any _ _ _).mono fun _ _ ⟨he, hw⟩ => ⟨he, _, hw.symm⟩); go_wp2_with (first | (go_at_call 137; refine (rnumeric_any _ _).mono ?_; rintro e w' ⟨rfl, rfl⟩) | (go_at_call 138; refine (rshared_any _ _ _).mono ?_; rintro e w' ⟨rfl, rfl⟩)))
  go_ret
  first | exact ⟨rfl, 0, rfl⟩ | exact ⟨rfl, _, rfl⟩ | exact ⟨rfl, _, by rw [World.drewN_drewN]⟩
theorem rtyped_10 (a b : Int) (g o cap : Nat) (w : World) (h0 : w.cell? ⟨g, o, none⟩ = some (.int .i64 a)) (h1 : w.cell? ⟨g, o + 1, none⟩ = some (.int .i64 b)) :
    Calls Tryz.prog 104 #[.int .i64 10, .slice (some ⟨g, o, none⟩) 2 cap] w (RetQ (.int .i64 ((opS 10).typed [a, b])) w) := by
  cases k : numT a with
  | false => exact rtyped_10f a b g o cap w h0 h1 k
  | true =>
    cases k2 : numT b with
    | false => exact rtyped_10tf a b g o cap w h0 h1 k k2
    | true => exact rtyped_10tt a b g o cap w h0 h1 k k2
set_option maxRecDepth 100000 in
theorem rtyped_11f (a b : Int) (g o cap : Nat) (w : World) (h0 : w.cell? ⟨g, o, none⟩ = some (.int .i64 a)) (_h1 : w.cell? ⟨g, o + 1, none⟩ = some (.int .i64 b)) (k : numT a = false) :
    Calls Tryz.prog 104 #[.int .i64 11, .slice (some ⟨g, o, none⟩) 2 cap] w (RetQ (.int .i64 ((opS 11).typed [a, b])) w) := by
  have e : (opS 11).typed [a, b] = 0 := by show sumsT [a, b] = 0; simp [sumsT, sumsT, k]
  rw [e]
  clear e
  go_enter Tryz.func104, Tryz.ntmps104
  go_wp2_with (first | (go_at_call 137; refine (rnumeric_any _ _).mono ?_; rintro e w' ⟨rfl, rfl⟩) | (go_at_call 138; refine (rshared_any _ _ _).mono ?_; rintro e w' ⟨rfl, rfl⟩))
  repeat (go_quiet (exact (rshared_any _ _ _).mono fun _ _ ⟨he, hw⟩ => ⟨he, _, hw.symm⟩); go_wp2_with (first | (go_at_call 137; refine (rnumeric_any _ _).mono ?_; rintro e w' ⟨rfl, rfl⟩) | (go_at_call 138; refine (rshared_any _ _ _).mono ?_; rintro e w' ⟨rfl, rfl⟩)))
  go_ret
  first | exact ⟨rfl, 0, rfl⟩ | exact ⟨rfl, _, rfl⟩ | exact ⟨rfl, _, by rw [World.drewN_drewN]⟩
set_option maxRecDepth 100000 in
theorem rtyped_11tf (a b : Int) (g o cap : Nat) (w : World) (h0 : w.cell? ⟨g, o, none⟩ = some (.int .i64 a)) (h1 : w.cell? ⟨g, o + 1, none⟩ = some (.int .i64 b)) (k : numT a = true) (k2 : numT b = false) :
    Calls Tryz.prog 104 #[.int .i64 11, .slice (some ⟨g, o, none⟩) 2 cap] w (RetQ (.int .i64 ((opS 11).typed [a, b])) w) := by
  have e : (opS 11).typed [a, b] = 0 := by show sumsT [a, b] = 0; simp [sumsT, k, lastCommon, num_common_r k k2]
  rw [e]
  clear e
  go_enter Tryz.func104, Tryz.ntmps104
  go_wp2_with (first | (go_at_call 137; refine (rnumeric_any _ _).mono ?_; rintro e w' ⟨rfl, rfl⟩) | (go_at_call 138; refine (rshared_any _ _ _).mono ?_; rintro e w' ⟨rfl, rfl⟩))
  repeat (go_quiet (exact (rshared_any _ _ _).mono fun _ _ ⟨he, hw⟩ => ⟨he, _, hw.symm⟩); go_wp2_with (first | (go_at_call 137; refine (rnumeric_any _ _).mono ?_; rintro e w' ⟨rfl, rfl⟩) | (go_at_call 138; refine (rshared_any _ _ _).mono ?_; rintro e w' ⟨rfl, rfl⟩)))
  go_ret
  first | exact ⟨rfl, 0, rfl⟩ | exact ⟨rfl, _, rfl⟩ | exact ⟨rfl, _, by rw [World.drewN_drewN]⟩
set_option maxRecDepth 100000 in
theorem rtyped_11tt (a b : Int) (g o cap : Nat) (w : World) (h0 : w.cell? ⟨g, o, none⟩ = some (.int .i64 a)) (h1 : w.cell? ⟨g, o + 1, none⟩ = some (.int .i64 b)) (k : numT a = true) (k2 : numT b = true) :
    Calls Tryz.prog 104 #[.int .i64 11, .slice (some ⟨g, o, none⟩) 2 cap] w (RetQ (.int .i64 ((opS 11).typed [a, b])) w) := by
  have e : (opS 11).typed [a, b] = commonT a b := by show sumsT [a, b] = commonT a b; simp [sumsT, k, lastCommon]
  rw [e]
  clear e
  go_enter Tryz.func104, Tryz.ntmps104
  go_wp2_with (first | (go_at_call 137; refine (rnumeric_any _ _).mono ?_; rintro e w' ⟨rfl, rfl⟩) | (go_at_call 138; refine (rshared_any _ _ _).mono ?_; rintro e w' ⟨rfl, rfl⟩))
  repeat (go_quiet (exact (rshared_any _ _ _).mono fun _ _ ⟨he, hw⟩ => ⟨he, _, hw.symm⟩); go_wp2_with (first | (go_at_call 137; refine (rnumeric_any _ _).mono ?_; rintro e w' ⟨rfl, rfl⟩) | (go_at_call 138; refine (rshared_any _ _ _).mono ?_; rintro e w' ⟨rfl, rfl⟩)))
  go_ret
  first | exact ⟨rfl, 0, rfl⟩ | exact ⟨rfl, _, rfl⟩ | exact ⟨rfl, _, by rw [World.drewN_drewN]⟩
theorem rtyped_11 (a b : Int) (g o cap : Nat) (w : World) (h0 : w.cell? ⟨g, o, none⟩ = some (.int .i64 a)) (h1 : w.cell? ⟨g, o + 1, none⟩ = some (.int .i64 b)) :
    Calls Tryz.prog 104 #[.int .i64 11, .slice (some ⟨g, o, none⟩) 2 cap] w (RetQ (.int .i64 ((opS 11).typed [a, b])) w) := by
  cases k : numT a with
  | false => exact rtyped_11f a b g o cap w h0 h1 k
  | true =>
    cases k2 : numT b with
    | false => exact rtyped_11tf a b g o cap w h0 h1 k k2
    | true => exact rtyped_11tt a b g o cap w h0 h1 k k2
set_option maxRecDepth 100000 in
theorem rtyped_12f (a b : Int) (g o cap : Nat) (w : World) (h0 : w.cell? ⟨g, o, none⟩ = some (.int .i64 a)) (_h1 : w.cell? ⟨g, o + 1, none⟩ = some (.int .i64 b)) (k : numT a = false) :
    Calls Tryz.prog 104 #[.int .i64 12, .slice (some ⟨g, o, none⟩) 2 cap] w (RetQ (.int .i64 ((opS 12).typed [a, b])) w) := by
  have e : (opS 12).typed [a, b] = 0 := by show quoT [a, b] = 0; simp [quoT, sumsT, k]
  rw [e]
  clear e
  go_enter Tryz.func104, Tryz.ntmps104
  go_wp2_with (first | (go_at_call 137; refine (rnumeric_any _ _).mono ?_; rintro e w' ⟨rfl, rfl⟩) | (go_at_call 138; refine (rshared_any _ _ _).mono ?_; rintro e w' ⟨rfl, rfl⟩))
  repeat (go_quiet (exact (rshared_any _ _ _).mono fun _ _ ⟨he, hw⟩ => ⟨he, _, hw.symm⟩); go_wp2_with (first | (go_at_call 137; refine (rnumeric_any _ _).mono ?_; rintro e w' ⟨rfl, rfl⟩) | (go_at_call 138; refine (rshared_any _ _ _).mono ?_; rintro e w' ⟨rfl, rfl⟩)))
  go_ret
  first | exact ⟨rfl, 0, rfl⟩ | exact ⟨rfl, _, rfl⟩ | exact ⟨rfl, _, by rw [World.drewN_drewN]⟩
set_option maxRecDepth 100000 in
theorem rtyped_12tf (a b : Int) (g o cap : Nat) (w : World) (h0 : w.cell? ⟨g, o, none⟩ = some (.int .i64 a)) (h1 : w.cell? ⟨g, o + 1, none⟩ = some (.int .i64 b)) (k : numT a = true) (k2 : numT b = false) :
    Calls Tryz.prog 104 #[.int .i64 12, .slice (some ⟨g, o, none⟩) 2 cap] w (RetQ (.int .i64 ((opS 12).typed [a, b])) w) := by
  have e : (opS 12).typed [a, b] = 0 := by show quoT [a, b] = 0; simp [quoT, sumsT, k, lastCommon, num_common_r k k2]
  rw [e]
  clear e
  go_enter Tryz.func104, Tryz.ntmps104
  go_wp2_with (first | (go_at_call 137; refine (rnumeric_any _ _).mono ?_; rintro e w' ⟨rfl, rfl⟩) | (go_at_call 138; refine (rshared_any _ _ _).mono ?_; rintro e w' ⟨rfl, rfl⟩))
  repeat (go_quiet (exact (rshared_any _ _ _).mono fun _ _ ⟨he, hw⟩ => ⟨he, _, hw.symm⟩); go_wp2_with (first | (go_at_call 137; refine (rnumeric_any _ _).mono ?_; rintro e w' ⟨rfl, rfl⟩) | (go_at_call 138; refine (rshared_any _ _ _).mono ?_; rintro e w' ⟨rfl, rfl⟩)))
  go_ret
  first | exact ⟨rfl, 0, rfl⟩ | exact ⟨rfl, _, rfl⟩ | exact ⟨rfl, _, by rw [World.drewN_drewN]⟩
set_option maxRecDepth 100000 in
theorem rtyped_12tt (a b : Int) (g o cap : Nat) (w : World) (h0 : w.cell? ⟨g, o, none⟩ = some (.int .i64 a)) (h1 : w.cell? ⟨g, o + 1, none⟩ = some (.int .i64 b)) (k : numT a = true) (k2 : numT b = true) :
    Calls Tryz.prog 104 #[.int .i64 12, .slice (some ⟨g, o, none⟩) 2 cap] w (RetQ (.int .i64 ((opS 12).typed [a, b])) w) := by
  have e : (opS 12).typed [a, b] = 3 := by show quoT [a, b] = 3; have := num_common k k2; simp [quoT, sumsT, k, lastCommon, this]
  rw [e]
  clear e
  go_enter Tryz.func104, Tryz.ntmps104
  go_wp2_with (first | (go_at_call 137; refine (rnumeric_any _ _).mono ?_; rintro e w' ⟨rfl, rfl⟩) | (go_at_call 138; refine (rshared_any _ _ _).mono ?_; rintro e w' ⟨rfl, rfl⟩))
  repeat (go_quiet (exact (rshared_any _ _ _).mono fun _ _ ⟨he, hw⟩ => ⟨he, _, hw.symm⟩); go_wp2_with (first | (go_at_call 137; refine (rnumeric_any _ _).mono ?_; rintro e w' ⟨rfl, rfl⟩) | (go_at_call 138; refine (rshared_any _ _ _).mono ?_; rintro e w' ⟨rfl, rfl⟩)))
  go_ret
  first | exact ⟨rfl, 0, rfl⟩ | exact ⟨rfl, _, rfl⟩ | exact ⟨rfl, _, by rw [World.drewN_drewN]⟩
theorem rtyped_12 (a b : Int) (g o cap : Nat) (w : World) (h0 : w.cell? ⟨g, o, none⟩ = some (.int .i64 a)) (h1 : w.cell? ⟨g, o + 1, none⟩ = some (.int .i64 b)) :
    Calls Tryz.prog 104 #[.int .i64 12, .slice (some ⟨g, o, none⟩) 2 cap] w (RetQ (.int .i64 ((opS 12).typed [a, b])) w) := by
  cases k : numT a with
  | false => exact rtyped_12f a b g o cap w h0 h1 k
  | true =>
    cases k2 : numT b with
    | false => exact rtyped_12tf a b g o cap w h0 h1 k k2
    | true => exact rtyped_12tt a b g o cap w h0 h1 k k2
set_option maxRecDepth 100000 in
theorem rtyped_13f (a b : Int) (g o cap : Nat) (w : World) (h0 : w.cell? ⟨g, o, none⟩ = some (.int .i64 a)) (h1 : w.cell? ⟨g, o + 1, none⟩ = some (.int .i64 b)) (k : (commonT a b != 0) = false) :
    Calls Tryz.prog 104 #[.int .i64 13, .slice (some ⟨g, o, none⟩) 2 cap] w (RetQ (.int .i64 ((opS 13).typed [a, b])) w) := by
  have e : (opS 13).typed [a, b] = 0 := by show compT [a, b] = 0; simp only [bne_eq_false_iff_eq] at k; simp [compT, lastCommon, k]
  rw [e]
  clear e
  go_enter Tryz.func104, Tryz.ntmps104
  go_wp2_with (first | (go_at_call 137; refine (rnumeric_any _ _).mono ?_; rintro e w' ⟨rfl, rfl⟩) | (go_at_call 138; refine (rshared_any _ _ _).mono ?_; rintro e w' ⟨rfl, rfl⟩))
  repeat (go_quiet (exact (rshared_any _ _ _).mono fun _ _ ⟨he, hw⟩ => ⟨he, _, hw.symm⟩); go_wp2_with (first | (go_at_call 137; refine (rnumeric_any _ _).mono ?_; rintro e w' ⟨rfl, rfl⟩) | (go_at_call 138; refine (rshared_any _ _ _).mono ?_; rintro e w' ⟨rfl, rfl⟩)))
  go_ret
  first | exact ⟨rfl, 0, rfl⟩ | exact ⟨rfl, _, rfl⟩ | exact ⟨rfl, _, by rw [World.drewN_drewN]⟩
set_option maxRecDepth 100000 in
theorem rtyped_13t (a b : Int) (g o cap : Nat) (w : World) (h0 : w.cell? ⟨g, o, none⟩ = some (.int .i64 a)) (h1 : w.cell? ⟨g, o + 1, none⟩ = some (.int .i64 b)) (k : (commonT a b != 0) = true) :
    Calls Tryz.prog 104 #[.int .i64 13, .slice (some ⟨g, o, none⟩) 2 cap] w (RetQ (.int .i64 ((opS 13).typed [a, b])) w) := by
  have e : (opS 13).typed [a, b] = 1 := by show compT [a, b] = 1; simp only [bne_iff_ne] at k; simp [compT, lastCommon, k]
  rw [e]
  clear e
  go_enter Tryz.func104, Tryz.ntmps104
  go_wp2_with (first | (go_at_call 137; refine (rnumeric_any _ _).mono ?_; rintro e w' ⟨rfl, rfl⟩) | (go_at_call 138; refine (rshared_any _ _ _).mono ?_; rintro e w' ⟨rfl, rfl⟩))
  repeat (go_quiet (exact (rshared_any _ _ _).mono fun _ _ ⟨he, hw⟩ => ⟨he, _, hw.symm⟩); go_wp2_with (first | (go_at_call 137; refine (rnumeric_any _ _).mono ?_; rintro e w' ⟨rfl, rfl⟩) | (go_at_call 138; refine (rshared_any _ _ _).mono ?_; rintro e w' ⟨rfl, rfl⟩)))
  go_ret
  first | exact ⟨rfl, 0, rfl⟩ | exact ⟨rfl, _, rfl⟩ | exact ⟨rfl, _, by rw [World.drewN_drewN]⟩
theorem rtyped_13 (a b : Int) (g o cap : Nat) (w : World) (h0 : w.cell? ⟨g, o, none⟩ = some (.int .i64 a)) (h1 : w.cell? ⟨g, o + 1, none⟩ = some (.int .i64 b)) :
    Calls Tryz.prog 104 #[.int .i64 13, .slice (some ⟨g, o, none⟩) 2 cap] w (RetQ (.int .i64 ((opS 13).typed [a, b])) w) := by
  cases k : (commonT a b != 0) with
  | true => exact rtyped_13t a b g o cap w h0 h1 k
  | false => exact rtyped_13f a b g o cap w h0 h1 k
set_option maxRecDepth 100000 in
theorem rtyped_14f (a b : Int) (g o cap : Nat) (w : World) (h0 : w.cell? ⟨g, o, none⟩ = some (.int .i64 a)) (h1 : w.cell? ⟨g, o + 1, none⟩ = some (.int .i64 b)) (k : (commonT a b != 0) = false) :
    Calls Tryz.prog 104 #[.int .i64 14, .slice (some ⟨g, o, none⟩) 2 cap] w (RetQ (.int .i64 ((opS 14).typed [a, b])) w) := by
  have e : (opS 14).typed [a, b] = 0 := by show compT [a, b] = 0; simp only [bne_eq_false_iff_eq] at k; simp [compT, lastCommon, k]
  rw [e]
  clear e
  go_enter Tryz.func104, Tryz.ntmps104
  go_wp2_with (first | (go_at_call 137; refine (rnumeric_any _ _).mono ?_; rintro e w' ⟨rfl, rfl⟩) | (go_at_call 138; refine (rshared_any _ _ _).mono ?_; rintro e w' ⟨rfl, rfl⟩))
  repeat (go_quiet (exact (rshared_any _ _ _).mono fun _ _ ⟨he, hw⟩ => ⟨he, _, hw.symm⟩); go_wp2_with (first | (go_at_call 137; refine (rnumeric_any _ _).mono ?_; rintro e w' ⟨rfl, rfl⟩) | (go_at_call 138; refine (rshared_any _ _ _).mono ?_; rintro e w' ⟨rfl, rfl⟩)))
  go_ret
  first | exact ⟨rfl, 0, rfl⟩ | exact ⟨rfl, _, rfl⟩ | exact ⟨rfl, _, by rw [World.drewN_drewN]⟩
set_option maxRecDepth 100000 in
theorem rtyped_14t (a b : Int) (g o cap : Nat) (w : World) (h0 : w.cell? ⟨g, o, none⟩ = some (.int .i64 a)) (h1 : w.cell? ⟨g, o + 1, none⟩ = some (.int .i64 b)) (k : (commonT a b != 0) = true) :
    Calls Tryz.prog 104 #[.int .i64 14, .slice (some ⟨g, o, none⟩) 2 cap] w (RetQ (.int .i64 ((opS 14).typed [a, b])) w) := by
  have e : (opS 14).typed [a, b] = 1 := by show compT [a, b] = 1; simp only [bne_iff_ne] at k; simp [compT, lastCommon, k]
  rw [e]
  clear e
  go_enter Tryz.func104, Tryz.ntmps104
  go_wp2_with (first | (go_at_call 137; refine (rnumeric_any _ _).mono ?_; rintro e w' ⟨rfl, rfl⟩) | (go_at_call 138; refine (rshared_any _ _ _).mono ?_; rintro e w' ⟨rfl, rfl⟩))
  repeat (go_quiet (exact (rshared_any _ _ _).mono fun _ _ ⟨he, hw⟩ => ⟨he, _, hw.symm⟩); go_wp2_with (first | (go_at_call 137; refine (rnumeric_any _ _).mono ?_; rintro e w' ⟨rfl, rfl⟩) | (go_at_call 138; refine (rshared_any _ _ _).mono ?_; rintro e w' ⟨rfl, rfl⟩)))
  go_ret
  first | exact ⟨rfl, 0, rfl⟩ | exact ⟨rfl, _, rfl⟩ | exact ⟨rfl, _, by rw [World.drewN_drewN]⟩
theorem rtyped_14 (a b : Int) (g o cap : Nat) (w : World) (h0 : w.cell? ⟨g, o, none⟩ = some (.int .i64 a)) (h1 : w.cell? ⟨g, o + 1, none⟩ = some (.int .i64 b)) :
    Calls Tryz.prog 104 #[.int .i64 14, .slice (some ⟨g, o, none⟩) 2 cap] w (RetQ (.int .i64 ((opS 14).typed [a, b])) w) := by
  cases k : (commonT a b != 0) with
  | true => exact rtyped_14t a b g o cap w h0 h1 k
  | false => exact rtyped_14f a b g o cap w h0 h1 k
set_option maxRecDepth 100000 in
theorem rtyped_15f (a b : Int) (g o cap : Nat) (w : World) (h0 : w.cell? ⟨g, o, none⟩ = some (.int .i64 a)) (h1 : w.cell? ⟨g, o + 1, none⟩ = some (.int .i64 b)) (k : (commonT a b != 0) = false) :
    Calls Tryz.prog 104 #[.int .i64 15, .slice (some ⟨g, o, none⟩) 2 cap] w (RetQ (.int .i64 ((opS 15).typed [a, b])) w) := by
  have e : (opS 15).typed [a, b] = 0 := by show compT [a, b] = 0; simp only [bne_eq_false_iff_eq] at k; simp [compT, lastCommon, k]
  rw [e]
  clear e
  go_enter Tryz.func104, Tryz.ntmps104
  go_wp2_with (first | (go_at_call 137; refine (rnumeric_any _ _).mono ?_; rintro e w' ⟨rfl, rfl⟩) | (go_at_call 138; refine (rshared_any _ _ _).mono ?_; rintro e w' ⟨rfl, rfl⟩))
  repeat (go_quiet (exact (rshared_any _ _ _).mono fun _ _ ⟨he, hw⟩ => ⟨he, _, hw.symm⟩); go_wp2_with (first | (go_at_call 137; refine (rnumeric_any _ _).mono ?_; rintro e w' ⟨rfl, rfl⟩) | (go_at_call 138; refine (rshared_any _ _ _).mono ?_; rintro e w' ⟨rfl, rfl⟩)))
  go_ret
  first | exact ⟨rfl, 0, rfl⟩ | exact ⟨rfl, _, rfl⟩ | exact ⟨rfl, _, by rw [World.drewN_drewN]⟩
set_option maxRecDepth 100000 in
theorem rtyped_15t (a b : Int) (g o cap : Nat) (w : World) (h0 : w.cell? ⟨g, o, none⟩ = some (.int .i64 a)) (h1 : w.cell? ⟨g, o + 1, none⟩ = some (.int .i64 b)) (k : (commonT a b != 0) = true) :
    Calls Tryz.prog 104 #[.int .i64 15, .slice (some ⟨g, o, none⟩) 2 cap] w (RetQ (.int .i64 ((opS 15).typed [a, b])) w) := by
  have e : (opS 15).typed [a, b] = 1 := by show compT [a, b] = 1; simp only [bne_iff_ne] at k; simp [compT, lastCommon, k]
  rw [e]
  clear e
  go_enter Tryz.func104, Tryz.ntmps104
  go_wp2_with (first | (go_at_call 137; refine (rnumeric_any _ _).mono ?_; rintro e w' ⟨rfl, rfl⟩) | (go_at_call 138; refine (rshared_any _ _ _).mono ?_; rintro e w' ⟨rfl, rfl⟩))
  repeat (go_quiet (exact (rshared_any _ _ _).mono fun _ _ ⟨he, hw⟩ => ⟨he, _, hw.symm⟩); go_wp2_with (first | (go_at_call 137; refine (rnumeric_any _ _).mono ?_; rintro e w' ⟨rfl, rfl⟩) | (go_at_call 138; refine (rshared_any _ _ _).mono ?_; rintro e w' ⟨rfl, rfl⟩)))
  go_ret
  first | exact ⟨rfl, 0, rfl⟩ | exact ⟨rfl, _, rfl⟩ | exact ⟨rfl, _, by rw [World.drewN_drewN]⟩
theorem rtyped_15 (a b : Int) (g o cap : Nat) (w : World) (h0 : w.cell? ⟨g, o, none⟩ = some (.int .i64 a)) (h1 : w.cell? ⟨g, o + 1, none⟩ = some (.int .i64 b)) :
    Calls Tryz.prog 104 #[.int .i64 15, .slice (some ⟨g, o, none⟩) 2 cap] w (RetQ (.int .i64 ((opS 15).typed [a, b])) w) := by
  cases k : (commonT a b != 0) with
  | true => exact rtyped_15t a b g o cap w h0 h1 k
  | false => exact rtyped_15f a b g o cap w h0 h1 k
set_option maxRecDepth 100000 in
theorem rtyped_16f (a b : Int) (g o cap : Nat) (w : World) (h0 : w.cell? ⟨g, o, none⟩ = some (.int .i64 a)) (h1 : w.cell? ⟨g, o + 1, none⟩ = some (.int .i64 b)) (k : (commonT a b != 0) = false) :
    Calls Tryz.prog 104 #[.int .i64 16, .slice (some ⟨g, o, none⟩) 2 cap] w (RetQ (.int .i64 ((opS 16).typed [a, b])) w) := by
  have e : (opS 16).typed [a, b] = 0 := by show compT [a, b] = 0; simp only [bne_eq_false_iff_eq] at k; simp [compT, lastCommon, k]
  rw [e]
  clear e
  go_enter Tryz.func104, Tryz.ntmps104
  go_wp2_with (first | (go_at_call 137; refine (rnumeric_any _ _).mono ?_; rintro e w' ⟨rfl, rfl⟩) | (go_at_call 138; refine (rshared_any _ _ _).mono ?_; rintro e w' ⟨rfl, rfl⟩))
  repeat (go_quiet (exact (rshared_any _ _ _).mono fun _ _ ⟨he, hw⟩ => ⟨he, _, hw.symm⟩); go_wp2_with (first | (go_at_call 137; refine (rnumeric_any _ _).mono ?_; rintro e w' ⟨rfl, rfl⟩) | (go_at_call 138; refine (rshared_any _ _ _).mono ?_; rintro e w' ⟨rfl, rfl⟩)))
  go_ret
  first | exact ⟨rfl, 0, rfl⟩ | exact ⟨rfl, _, rfl⟩ | exact ⟨rfl, _, by rw [World.drewN_drewN]⟩
set_option maxRecDepth 100000 in
theorem rtyped_16t (a b : Int) (g o cap : Nat) (w : World) (h0 : w.cell? ⟨g, o, none⟩ = some (.int .i64 a)) (h1 : w.cell? ⟨g, o + 1, none⟩ = some (.int .i64 b)) (k : (commonT a b != 0) = true) :
    Calls Tryz.prog 104 #[.int .i64 16, .slice (some ⟨g, o, none⟩) 2 cap] w (RetQ (.int .i64 ((opS 16).typed [a, b])) w) := by
  have e : (opS 16).typed [a, b] = 1 := by show compT [a, b] = 1; simp only [bne_iff_ne] at k; simp [compT, lastCommon, k]
  rw [e]
  clear e
  go_enter Tryz.func104, Tryz.ntmps104
  go_wp2_with (first | (go_at_call 137; refine (rnumeric_any _ _).mono ?_; rintro e w' ⟨rfl, rfl⟩) | (go_at_call 138; refine (rshared_any _ _ _).mono ?_; rintro e w' ⟨rfl, rfl⟩))
  repeat (go_quiet (exact (rshared_any _ _ _).mono fun _ _ ⟨he, hw⟩ => ⟨he, _, hw.symm⟩); go_wp2_with (first | (go_at_call 137; refine (rnumeric_any _ _).mono ?_; rintro e w' ⟨rfl, rfl⟩) | (go_at_call 138; refine (rshared_any _ _ _).mono ?_; rintro e w' ⟨rfl, rfl⟩)))
  go_ret
  first | exact ⟨rfl, 0, rfl⟩ | exact ⟨rfl, _, rfl⟩ | exact ⟨rfl, _, by rw [World.drewN_drewN]⟩
theorem rtyped_16 (a b : Int) (g o cap : Nat) (w : World) (h0 : w.cell? ⟨g, o, none⟩ = some (.int .i64 a)) (h1 : w.cell? ⟨g, o + 1, none⟩ = some (.int .i64 b)) :
    Calls Tryz.prog 104 #[.int .i64 16, .slice (some ⟨g, o, none⟩) 2 cap] w (RetQ (.int .i64 ((opS 16).typed [a, b])) w) := by
  cases k : (commonT a b != 0) with
  | true => exact rtyped_16t a b g o cap w h0 h1 k
  | false => exact rtyped_16f a b g o cap w h0 h1 k
set_option maxRecDepth 100000 in
theorem rtyped_17f (a b : Int) (g o cap : Nat) (w : World) (h0 : w.cell? ⟨g, o, none⟩ = some (.int .i64 a)) (h1 : w.cell? ⟨g, o + 1, none⟩ = some (.int .i64 b)) (k : (commonT a b != 0) = false) :
    Calls Tryz.prog 104 #[.int .i64 17, .slice (some ⟨g, o, none⟩) 2 cap] w (RetQ (.int .i64 ((opS 17).typed [a, b])) w) := by
  have e : (opS 17).typed [a, b] = 0 := by show compT [a, b] = 0; simp only [bne_eq_false_iff_eq] at k; simp [compT, lastCommon, k]
  rw [e]
  clear e
  go_enter Tryz.func104, Tryz.ntmps104
  go_wp2_with (first | (go_at_call 137; refine (rnumeric_any _ _).mono ?_; rintro e w' ⟨rfl, rfl⟩) | (go_at_call 138; refine (rshared_any _ _ _).mono ?_; rintro e w' ⟨rfl, rfl⟩))
  repeat (go_quiet (exact (rshared_any _ _ _).mono fun _ _ ⟨he, hw⟩ => ⟨he, _, hw.symm⟩); go_wp2_with (first | (go_at_call 137; refine (rnumeric_any _ _).mono ?_; rintro e w' ⟨rfl, rfl⟩) | (go_at_call 138; refine (rshared_any _ _ _).mono ?_; rintro e w' ⟨rfl, rfl⟩)))
  go_ret
  first | exact ⟨rfl, 0, rfl⟩ | exact ⟨rfl, _, rfl⟩ | exact ⟨rfl, _, by rw [World.drewN_drewN]⟩
set_option maxRecDepth 100000 in
theorem rtyped_17t (a b : Int) (g o cap : Nat) (w : World) (h0 : w.cell? ⟨g, o, none⟩ = some (.int .i64 a)) (h1 : w.cell? ⟨g, o + 1, none⟩ = some (.int .i64 b)) (k : (commonT a b != 0) = true) :
    Calls Tryz.prog 104 #[.int .i64 17, .slice (some ⟨g, o, none⟩) 2 cap] w (RetQ (.int .i64 ((opS 17).typed [a, b])) w) := by
  have e : (opS 17).typed [a, b] = 1 := by show compT [a, b] = 1; simp only [bne_iff_ne] at k; simp [compT, lastCommon, k]
  rw [e]
  clear e
  go_enter Tryz.func104, Tryz.ntmps104
  go_wp2_with (first | (go_at_call 137; refine (rnumeric_any _ _).mono ?_; rintro e w' ⟨rfl, rfl⟩) | (go_at_call 138; refine (rshared_any _ _ _).mono ?_; rintro e w' ⟨rfl, rfl⟩))
  repeat (go_quiet (exact (rshared_any _ _ _).mono fun _ _ ⟨he, hw⟩ => ⟨he, _, hw.symm⟩); go_wp2_with (first | (go_at_call 137; refine (rnumeric_any _ _).mono ?_; rintro e w' ⟨rfl, rfl⟩) | (go_at_call 138; refine (rshared_any _ _ _).mono ?_; rintro e w' ⟨rfl, rfl⟩)))
  go_ret
  first | exact ⟨rfl, 0, rfl⟩ | exact ⟨rfl, _, rfl⟩ | exact ⟨rfl, _, by rw [World.drewN_drewN]⟩
theorem rtyped_17 (a b : Int) (g o cap : Nat) (w : World) (h0 : w.cell? ⟨g, o, none⟩ = some (.int .i64 a)) (h1 : w.cell? ⟨g, o + 1, none⟩ = some (.int .i64 b)) :
    Calls Tryz.prog 104 #[.int .i64 17, .slice (some ⟨g, o, none⟩) 2 cap] w (RetQ (.int .i64 ((opS 17).typed [a, b])) w) := by
  cases k : (commonT a b != 0) with
  | true => exact rtyped_17t a b g o cap w h0 h1 k
  | false => exact rtyped_17f a b g o cap w h0 h1 k
set_option maxRecDepth 100000 in
theorem rtyped_18f (a b : Int) (g o cap : Nat) (w : World) (h0 : w.cell? ⟨g, o, none⟩ = some (.int .i64 a)) (h1 : w.cell? ⟨g, o + 1, none⟩ = some (.int .i64 b)) (k : (commonT a b != 0) = false) :
    Calls Tryz.prog 104 #[.int .i64 18, .slice (some ⟨g, o, none⟩) 2 cap] w (RetQ (.int .i64 ((opS 18).typed [a, b])) w) := by
  have e : (opS 18).typed [a, b] = 0 := by show compT [a, b] = 0; simp only [bne_eq_false_iff_eq] at k; simp [compT, lastCommon, k]
  rw [e]
  clear e
  go_enter Tryz.func104, Tryz.ntmps104
  go_wp2_with (first | (go_at_call 137; refine (rnumeric_any _ _).mono ?_; rintro e w' ⟨rfl, rfl⟩) | (go_at_call 138; refine (rshared_any _ _ _).mono ?_; rintro e w' ⟨rfl, rfl⟩))
  repeat (go_quiet (exact (rshared_any _ _ _).mono fun _ _ ⟨he, hw⟩ => ⟨he, _, hw.symm⟩); go_wp2_with (first | (go_at_call 137; refine (rnumeric_any _ _).mono ?_; rintro e w' ⟨rfl, rfl⟩) | (go_at_call 138; refine (rshared_any _ _ _).mono ?_; rintro e w' ⟨rfl, rfl⟩)))
  go_ret
  first | exact ⟨rfl, 0, rfl⟩ | exact ⟨rfl, _, rfl⟩ | exact ⟨rfl, _, by rw [World.drewN_drewN]⟩
set_option maxRecDepth 100000 in
theorem rtyped_18t (a b : Int) (g o cap : Nat) (w : World) (h0 : w.cell? ⟨g, o, none⟩ = some (.int .i64 a)) (h1 : w.cell? ⟨g, o + 1, none⟩ = some (.int .i64 b)) (k : (commonT a b != 0) = true) :
    Calls Tryz.prog 104 #[.int .i64 18, .slice (some ⟨g, o, none⟩) 2 cap] w (RetQ (.int .i64 ((opS 18).typed [a, b])) w) := by
  have e : (opS 18).typed [a, b] = 1 := by show compT [a, b] = 1; simp only [bne_iff_ne] at k; simp [compT, lastCommon, k]
  rw [e]
  clear e
  go_enter Tryz.func104, Tryz.ntmps104
  go_wp2_with (first | (go_at_call 137; refine (rnumeric_any _ _).mono ?_; rintro e w' ⟨rfl, rfl⟩) | (go_at_call 138; refine (rshared_any _ _ _).mono ?_; rintro e w' ⟨rfl, rfl⟩))
  repeat (go_quiet (exact (rshared_any _ _ _).mono fun _ _ ⟨he, hw⟩ => ⟨he, _, hw.symm⟩); go_wp2_with (first | (go_at_call 137; refine (rnumeric_any _ _).mono ?_; rintro e w' ⟨rfl, rfl⟩) | (go_at_call 138; refine (rshared_any _ _ _).mono ?_; rintro e w' ⟨rfl, rfl⟩)))
  go_ret
  first | exact ⟨rfl, 0, rfl⟩ | exact ⟨rfl, _, rfl⟩ | exact ⟨rfl, _, by rw [World.drewN_drewN]⟩
theorem rtyped_18 (a b : Int) (g o cap : Nat) (w : World) (h0 : w.cell? ⟨g, o, none⟩ = some (.int .i64 a)) (h1 : w.cell? ⟨g, o + 1, none⟩ = some (.int .i64 b)) :
    Calls Tryz.prog 104 #[.int .i64 18, .slice (some ⟨g, o, none⟩) 2 cap] w (RetQ (.int .i64 ((opS 18).typed [a, b])) w) := by
  cases k : (commonT a b != 0) with
  | true => exact rtyped_18t a b g o cap w h0 h1 k
  | false => exact rtyped_18f a b g o cap w h0 h1 k
set_option maxRecDepth 100000 in
theorem rtyped_19f (a b : Int) (g o cap : Nat) (w : World) (h0 : w.cell? ⟨g, o, none⟩ = some (.int .i64 a)) (_h1 : w.cell? ⟨g, o + 1, none⟩ = some (.int .i64 b)) (k : (a == (1 : Int)) = false) :
    Calls Tryz.prog 104 #[.int .i64 19, .slice (some ⟨g, o, none⟩) 2 cap] w (RetQ (.int .i64 ((opS 19).typed [a, b])) w) := by
  have e : (opS 19).typed [a, b] = 0 := by show choiceT [a, b] = 0; rw [beq_eq_false_iff_ne] at k; simp [choiceT, k]
  rw [e]
  clear e
  go_enter Tryz.func104, Tryz.ntmps104
  go_wp2_with (first | (go_at_call 137; refine (rnumeric_any _ _).mono ?_; rintro e w' ⟨rfl, rfl⟩) | (go_at_call 138; refine (rshared_any _ _ _).mono ?_; rintro e w' ⟨rfl, rfl⟩))
  repeat (go_quiet (exact (rshared_any _ _ _).mono fun _ _ ⟨he, hw⟩ => ⟨he, _, hw.symm⟩); go_wp2_with (first | (go_at_call 137; refine (rnumeric_any _ _).mono ?_; rintro e w' ⟨rfl, rfl⟩) | (go_at_call 138; refine (rshared_any _ _ _).mono ?_; rintro e w' ⟨rfl, rfl⟩)))
  go_ret
  first | exact ⟨rfl, 0, rfl⟩ | exact ⟨rfl, _, rfl⟩ | exact ⟨rfl, _, by rw [World.drewN_drewN]⟩
set_option maxRecDepth 100000 in
theorem rtyped_19tf (a b : Int) (g o cap : Nat) (w : World) (h0 : w.cell? ⟨g, o, none⟩ = some (.int .i64 a)) (h1 : w.cell? ⟨g, o + 1, none⟩ = some (.int .i64 b)) (k : (a == (1 : Int)) = true) (k2 : (b == (1 : Int)) = false) :
    Calls Tryz.prog 104 #[.int .i64 19, .slice (some ⟨g, o, none⟩) 2 cap] w (RetQ (.int .i64 ((opS 19).typed [a, b])) w) := by
  have e : (opS 19).typed [a, b] = 0 := by rw [beq_iff_eq] at k; subst k; rw [beq_eq_false_iff_ne] at k2; show choiceT [1, b] = 0; simp [choiceT, lastCommon, bool_common, k2]
  rw [e]
  clear e
  go_enter Tryz.func104, Tryz.ntmps104
  go_wp2_with (first | (go_at_call 137; refine (rnumeric_any _ _).mono ?_; rintro e w' ⟨rfl, rfl⟩) | (go_at_call 138; refine (rshared_any _ _ _).mono ?_; rintro e w' ⟨rfl, rfl⟩))
  repeat (go_quiet (exact (rshared_any _ _ _).mono fun _ _ ⟨he, hw⟩ => ⟨he, _, hw.symm⟩); go_wp2_with (first | (go_at_call 137; refine (rnumeric_any _ _).mono ?_; rintro e w' ⟨rfl, rfl⟩) | (go_at_call 138; refine (rshared_any _ _ _).mono ?_; rintro e w' ⟨rfl, rfl⟩)))
  go_ret
  first | exact ⟨rfl, 0, rfl⟩ | exact ⟨rfl, _, rfl⟩ | exact ⟨rfl, _, by rw [World.drewN_drewN]⟩
set_option maxRecDepth 100000 in
theorem rtyped_19tt (a b : Int) (g o cap : Nat) (w : World) (h0 : w.cell? ⟨g, o, none⟩ = some (.int .i64 a)) (h1 : w.cell? ⟨g, o + 1, none⟩ = some (.int .i64 b)) (k : (a == (1 : Int)) = true) (k2 : (b == (1 : Int)) = true) :
    Calls Tryz.prog 104 #[.int .i64 19, .slice (some ⟨g, o, none⟩) 2 cap] w (RetQ (.int .i64 ((opS 19).typed [a, b])) w) := by
  have e : (opS 19).typed [a, b] = 1 := by rw [beq_iff_eq] at k k2; subst k k2; rfl
  rw [e]
  clear e
  go_enter Tryz.func104, Tryz.ntmps104
  go_wp2_with (first | (go_at_call 137; refine (rnumeric_any _ _).mono ?_; rintro e w' ⟨rfl, rfl⟩) | (go_at_call 138; refine (rshared_any _ _ _).mono ?_; rintro e w' ⟨rfl, rfl⟩))
  repeat (go_quiet (exact (rshared_any _ _ _).mono fun _ _ ⟨he, hw⟩ => ⟨he, _, hw.symm⟩); go_wp2_with (first | (go_at_call 137; refine (rnumeric_any _ _).mono ?_; rintro e w' ⟨rfl, rfl⟩) | (go_at_call 138; refine (rshared_any _ _ _).mono ?_; rintro e w' ⟨rfl, rfl⟩)))
  go_ret
  first | exact ⟨rfl, 0, rfl⟩ | exact ⟨rfl, _, rfl⟩ | exact ⟨rfl, _, by rw [World.drewN_drewN]⟩
theorem rtyped_19 (a b : Int) (g o cap : Nat) (w : World) (h0 : w.cell? ⟨g, o, none⟩ = some (.int .i64 a)) (h1 : w.cell? ⟨g, o + 1, none⟩ = some (.int .i64 b)) :
    Calls Tryz.prog 104 #[.int .i64 19, .slice (some ⟨g, o, none⟩) 2 cap] w (RetQ (.int .i64 ((opS 19).typed [a, b])) w) := by
  cases k : (a == (1 : Int)) with
  | false => exact rtyped_19f a b g o cap w h0 h1 k
  | true =>
    cases k2 : (b == (1 : Int)) with
    | false => exact rtyped_19tf a b g o cap w h0 h1 k k2
    | true => exact rtyped_19tt a b g o cap w h0 h1 k k2
set_option maxRecDepth 100000 in
theorem rtyped_20f (a b : Int) (g o cap : Nat) (w : World) (h0 : w.cell? ⟨g, o, none⟩ = some (.int .i64 a)) (_h1 : w.cell? ⟨g, o + 1, none⟩ = some (.int .i64 b)) (k : (a == (1 : Int)) = false) :
    Calls Tryz.prog 104 #[.int .i64 20, .slice (some ⟨g, o, none⟩) 2 cap] w (RetQ (.int .i64 ((opS 20).typed [a, b])) w) := by
  have e : (opS 20).typed [a, b] = 0 := by show choiceT [a, b] = 0; rw [beq_eq_false_iff_ne] at k; simp [choiceT, k]
  rw [e]
  clear e
  go_enter Tryz.func104, Tryz.ntmps104
  go_wp2_with (first | (go_at_call 137; refine (rnumeric_any _ _).mono ?_; rintro e w' ⟨rfl, rfl⟩) | (go_at_call 138; refine (rshared_any _ _ _).mono ?_; rintro e w' ⟨rfl, rfl⟩))
  repeat (go_quiet (exact (rshared_any _ _ _).mono fun _ _ ⟨he, hw⟩ => ⟨he, _, hw.symm⟩); go_wp2_with (first | (go_at_call 137; refine (rnumeric_any _ _).mono ?_; rintro e w' ⟨rfl, rfl⟩) | (go_at_call 138; refine (rshared_any _ _ _).mono ?_; rintro e w' ⟨rfl, rfl⟩)))
  go_ret
  first | exact ⟨rfl, 0, rfl⟩ | exact ⟨rfl, _, rfl⟩ | exact ⟨rfl, _, by rw [World.drewN_drewN]⟩
set_option maxRecDepth 100000 in
theorem rtyped_20tf (a b : Int) (g o cap : Nat) (w : World) (h0 : w.cell? ⟨g, o, none⟩ = some (.int .i64 a)) (h1 : w.cell? ⟨g, o + 1, none⟩ = some (.int .i64 b)) (k : (a == (1 : Int)) = true) (k2 : (b == (1 : Int)) = false) :
    Calls Tryz.prog 104 #[.int .i64 20, .slice (some ⟨g, o, none⟩) 2 cap] w (RetQ (.int .i64 ((opS 20).typed [a, b])) w) := by
  have e : (opS 20).typed [a, b] = 0 := by rw [beq_iff_eq] at k; subst k; rw [beq_eq_false_iff_ne] at k2; show choiceT [1, b] = 0; simp [choiceT, lastCommon, bool_common, k2]
  rw [e]
  clear e
  go_enter Tryz.func104, Tryz.ntmps104
  go_wp2_with (first | (go_at_call 137; refine (rnumeric_any _ _).mono ?_; rintro e w' ⟨rfl, rfl⟩) | (go_at_call 138; refine (rshared_any _ _ _).mono ?_; rintro e w' ⟨rfl, rfl⟩))
  repeat (go_quiet (exact (rshared_any _ _ _).mono fun _ _ ⟨he, hw⟩ => ⟨he, _, hw.symm⟩); go_wp2_with (first | (go_at_call 137; refine (rnumeric_any _ _).mono ?_; rintro e w' ⟨rfl, rfl⟩) | (go_at_call 138; refine (rshared_any _ _ _).mono ?_; rintro e w' ⟨rfl, rfl⟩)))
  go_ret
  first | exact ⟨rfl, 0, rfl⟩ | exact ⟨rfl, _, rfl⟩ | exact ⟨rfl, _, by rw [World.drewN_drewN]⟩
set_option maxRecDepth 100000 in
theorem rtyped_20tt (a b : Int) (g o cap : Nat) (w : World) (h0 : w.cell? ⟨g, o, none⟩ = some (.int .i64 a)) (h1 : w.cell? ⟨g, o + 1, none⟩ = some (.int .i64 b)) (k : (a == (1 : Int)) = true) (k2 : (b == (1 : Int)) = true) :
    Calls Tryz.prog 104 #[.int .i64 20, .slice (some ⟨g, o, none⟩) 2 cap] w (RetQ (.int .i64 ((opS 20).typed [a, b])) w) := by
  have e : (opS 20).typed [a, b] = 1 := by rw [beq_iff_eq] at k k2; subst k k2; rfl
  rw [e]
  clear e
  go_enter Tryz.func104, Tryz.ntmps104
  go_wp2_with (first | (go_at_call 137; refine (rnumeric_any _ _).mono ?_; rintro e w' ⟨rfl, rfl⟩) | (go_at_call 138; refine (rshared_any _ _ _).mono ?_; rintro e w' ⟨rfl, rfl⟩))
  repeat (go_quiet (exact (rshared_any _ _ _).mono fun _ _ ⟨he, hw⟩ => ⟨he, _, hw.symm⟩); go_wp2_with (first | (go_at_call 137; refine (rnumeric_any _ _).mono ?_; rintro e w' ⟨rfl, rfl⟩) | (go_at_call 138; refine (rshared_any _ _ _).mono ?_; rintro e w' ⟨rfl, rfl⟩)))
  go_ret
  first | exact ⟨rfl, 0, rfl⟩ | exact ⟨rfl, _, rfl⟩ | exact ⟨rfl, _, by rw [World.drewN_drewN]⟩
theorem rtyped_20 (a b : Int) (g o cap : Nat) (w : World) (h0 : w.cell? ⟨g, o, none⟩ = some (.int .i64 a)) (h1 : w.cell? ⟨g, o + 1, none⟩ = some (.int .i64 b)) :
    Calls Tryz.prog 104 #[.int .i64 20, .slice (some ⟨g, o, none⟩) 2 cap] w (RetQ (.int .i64 ((opS 20).typed [a, b])) w) := by
  cases k : (a == (1 : Int)) with
  | false => exact rtyped_20f a b g o cap w h0 h1 k
  | true =>
    cases k2 : (b == (1 : Int)) with
    | false => exact rtyped_20tf a b g o cap w h0 h1 k k2
    | true => exact rtyped_20tt a b g o cap w h0 h1 k k2
set_option maxRecDepth 100000 in
theorem rtyped_21 (a b : Int) (g o cap : Nat) (w : World) (h0 : w.cell? ⟨g, o, none⟩ = some (.int .i64 a)) (h1 : w.cell? ⟨g, o + 1, none⟩ = some (.int .i64 b)) :
    Calls Tryz.prog 104 #[.int .i64 21, .slice (some ⟨g, o, none⟩) 2 cap] w (RetQ (.int .i64 ((opS 21).typed [a, b])) w) := by
  have e : (opS 21).typed [a, b] = commonT a b := by rfl
  rw [e]
  clear e
  go_enter Tryz.func104, Tryz.ntmps104
  go_wp2_with (first | (go_at_call 137; refine (rnumeric_any _ _).mono ?_; rintro e w' ⟨rfl, rfl⟩) | (go_at_call 138; refine (rshared_any _ _ _).mono ?_; rintro e w' ⟨rfl, rfl⟩))
  repeat (go_quiet (exact (rshared_any _ _ _).mono fun _ _ ⟨he, hw⟩ => ⟨he, _, hw.symm⟩); go_wp2_with (first | (go_at_call 137; refine (rnumeric_any _ _).mono ?_; rintro e w' ⟨rfl, rfl⟩) | (go_at_call 138; refine (rshared_any _ _ _).mono ?_; rintro e w' ⟨rfl, rfl⟩)))
  go_ret
  first | exact ⟨rfl, 0, rfl⟩ | exact ⟨rfl, _, rfl⟩ | exact ⟨rfl, _, by rw [World.drewN_drewN]⟩
set_option maxRecDepth 100000 in
theorem rtyped_22f (a b c : Int) (g o cap : Nat) (w : World) (h0 : w.cell? ⟨g, o, none⟩ = some (.int .i64 a)) (_h1 : w.cell? ⟨g, o + 1, none⟩ = some (.int .i64 b)) (_h2 : w.cell? ⟨g, o + 2, none⟩ = some (.int .i64 c)) (k : (a == (1 : Int)) = false) :
    Calls Tryz.prog 104 #[.int .i64 22, .slice (some ⟨g, o, none⟩) 3 cap] w (RetQ (.int .i64 ((opS 22).typed [a, b, c])) w) := by
  have e : (opS 22).typed [a, b, c] = 0 := by show choiceT [a, b, c] = 0; rw [beq_eq_false_iff_ne] at k; simp [choiceT, k]
  rw [e]
  clear e
  go_enter Tryz.func104, Tryz.ntmps104
  go_wp2_with (first | (go_at_call 137; refine (rnumeric_any _ _).mono ?_; rintro e w' ⟨rfl, rfl⟩) | (go_at_call 138; refine (rshared_any _ _ _).mono ?_; rintro e w' ⟨rfl, rfl⟩))
  repeat (go_quiet (exact (rshared_any _ _ _).mono fun _ _ ⟨he, hw⟩ => ⟨he, _, hw.symm⟩); go_wp2_with (first | (go_at_call 137; refine (rnumeric_any _ _).mono ?_; rintro e w' ⟨rfl, rfl⟩) | (go_at_call 138; refine (rshared_any _ _ _).mono ?_; rintro e w' ⟨rfl, rfl⟩)))
  go_ret
  first | exact ⟨rfl, 0, rfl⟩ | exact ⟨rfl, _, rfl⟩ | exact ⟨rfl, _, by rw [World.drewN_drewN]⟩
set_option maxRecDepth 100000 in
theorem rtyped_22t (a b c : Int) (g o cap : Nat) (w : World) (h0 : w.cell? ⟨g, o, none⟩ = some (.int .i64 a)) (h1 : w.cell? ⟨g, o + 1, none⟩ = some (.int .i64 b)) (h2 : w.cell? ⟨g, o + 2, none⟩ = some (.int .i64 c)) (k : (a == (1 : Int)) = true) :
    Calls Tryz.prog 104 #[.int .i64 22, .slice (some ⟨g, o, none⟩) 3 cap] w (RetQ (.int .i64 ((opS 22).typed [a, b, c])) w) := by
  have e : (opS 22).typed [a, b, c] = commonT b c := by rw [beq_iff_eq] at k; subst k; rfl
  rw [e]
  clear e
  go_enter Tryz.func104, Tryz.ntmps104
  go_wp2_with (first | (go_at_call 137; refine (rnumeric_any _ _).mono ?_; rintro e w' ⟨rfl, rfl⟩) | (go_at_call 138; refine (rshared_any _ _ _).mono ?_; rintro e w' ⟨rfl, rfl⟩))
  repeat (go_quiet (exact (rshared_any _ _ _).mono fun _ _ ⟨he, hw⟩ => ⟨he, _, hw.symm⟩); go_wp2_with (first | (go_at_call 137; refine (rnumeric_any _ _).mono ?_; rintro e w' ⟨rfl, rfl⟩) | (go_at_call 138; refine (rshared_any _ _ _).mono ?_; rintro e w' ⟨rfl, rfl⟩)))
  go_ret
  first | exact ⟨rfl, 0, rfl⟩ | exact ⟨rfl, _, rfl⟩ | exact ⟨rfl, _, by rw [World.drewN_drewN]⟩
theorem rtyped_22 (a b c : Int) (g o cap : Nat) (w : World) (h0 : w.cell? ⟨g, o, none⟩ = some (.int .i64 a)) (h1 : w.cell? ⟨g, o + 1, none⟩ = some (.int .i64 b)) (h2 : w.cell? ⟨g, o + 2, none⟩ = some (.int .i64 c)) :
    Calls Tryz.prog 104 #[.int .i64 22, .slice (some ⟨g, o, none⟩) 3 cap] w (RetQ (.int .i64 ((opS 22).typed [a, b, c])) w) := by
  cases k : (a == (1 : Int)) with
  | true => exact rtyped_22t a b c g o cap w h0 h1 h2 k
  | false => exact rtyped_22f a b c g o cap w h0 h1 h2 k

theorem operN_eq (op : Int) (n : Nat) (h : 0 < n) : knownOp op n = decide (operN op = n) := by
  unfold knownOp operN
  by_cases h1 : 4 ≤ op ∧ op ≤ 22
  · simp [h1]
  · rw [if_neg h1, decide_eq_false h1, Bool.false_and]
    symm; rw [decide_eq_false_iff_not]; omega
theorem operN_pos {op : Int} (h : 4 ≤ op ∧ op ≤ 22) : 0 < operN op := by
  rcases op_ways h with rfl | rfl | rfl | rfl | rfl | rfl | rfl | rfl | rfl | rfl | rfl | rfl | rfl | rfl | rfl | rfl | rfl | rfl | rfl <;> decide
theorem typed9_any (op : Int) (l : List Int) (v : Value) (w : World) (hv : InL w v l) (h : knownOp op l.length = true) :
    Calls Tryz.prog 104 #[.int .i64 op, v] w (RetQ (.int .i64 ((opS op.toNat).typed l)) w) := by
  obtain ⟨g, o, cap, rfl, -, -, hc⟩ := hv
  unfold knownOp at h
  rw [Bool.and_eq_true, decide_eq_true_eq, decide_eq_true_eq] at h
  obtain ⟨h1, h2⟩ := h
  rcases op_ways h1 with rfl | rfl | rfl | rfl | rfl | rfl | rfl | rfl | rfl | rfl | rfl | rfl | rfl | rfl | rfl | rfl | rfl | rfl | rfl
  · obtain ⟨a, rfl⟩ : ∃ a, l = [a] := by
      have h3 : l.length = 1 := h2.symm
      match l, h3 with
      | [a], _ => exact ⟨a, rfl⟩
    exact rtyped_4 a g o cap w (by simpa using hc 0 a rfl)
  · obtain ⟨a, rfl⟩ : ∃ a, l = [a] := by
      have h3 : l.length = 1 := h2.symm
      match l, h3 with
      | [a], _ => exact ⟨a, rfl⟩
    exact rtyped_5 a g o cap w (by simpa using hc 0 a rfl)
  · obtain ⟨a, rfl⟩ : ∃ a, l = [a] := by
      have h3 : l.length = 1 := h2.symm
      match l, h3 with
      | [a], _ => exact ⟨a, rfl⟩
    exact rtyped_6 a g o cap w (by simpa using hc 0 a rfl)
  · obtain ⟨a, rfl⟩ : ∃ a, l = [a] := by
      have h3 : l.length = 1 := h2.symm
      match l, h3 with
      | [a], _ => exact ⟨a, rfl⟩
    exact rtyped_7 a g o cap w (by simpa using hc 0 a rfl)
  · obtain ⟨a, rfl⟩ : ∃ a, l = [a] := by
      have h3 : l.length = 1 := h2.symm
      match l, h3 with
      | [a], _ => exact ⟨a, rfl⟩
    exact rtyped_8 a g o cap w (by simpa using hc 0 a rfl)
  · obtain ⟨a, b, rfl⟩ : ∃ a b, l = [a, b] := by
      have h3 : l.length = 2 := h2.symm
      match l, h3 with
      | [a, b], _ => exact ⟨a, b, rfl⟩
    exact rtyped_9 a b g o cap w (by simpa using hc 0 a rfl) (by simpa using hc 1 b rfl)
  · obtain ⟨a, b, rfl⟩ : ∃ a b, l = [a, b] := by
      have h3 : l.length = 2 := h2.symm
      match l, h3 with
      | [a, b], _ => exact ⟨a, b, rfl⟩
    exact rtyped_10 a b g o cap w (by simpa using hc 0 a rfl) (by simpa using hc 1 b rfl)
  · obtain ⟨a, b, rfl⟩ : ∃ a b, l = [a, b] := by
      have h3 : l.length = 2 := h2.symm
      match l, h3 with
      | [a, b], _ => exact ⟨a, b, rfl⟩
    exact rtyped_11 a b g o cap w (by simpa using hc 0 a rfl) (by simpa using hc 1 b rfl)
  · obtain ⟨a, b, rfl⟩ : ∃ a b, l = [a, b] := by
      have h3 : l.length = 2 := h2.symm
      match l, h3 with
      | [a, b], _ => exact ⟨a, b, rfl⟩
    exact rtyped_12 a b g o cap w (by simpa using hc 0 a rfl) (by simpa using hc 1 b rfl)
  · obtain ⟨a, b, rfl⟩ : ∃ a b, l = [a, b] := by
      have h3 : l.length = 2 := h2.symm
      match l, h3 with
      | [a, b], _ => exact ⟨a, b, rfl⟩
    exact rtyped_13 a b g o cap w (by simpa using hc 0 a rfl) (by simpa using hc 1 b rfl)
  · obtain ⟨a, b, rfl⟩ : ∃ a b, l = [a, b] := by
      have h3 : l.length = 2 := h2.symm
      match l, h3 with
      | [a, b], _ => exact ⟨a, b, rfl⟩
    exact rtyped_14 a b g o cap w (by simpa using hc 0 a rfl) (by simpa using hc 1 b rfl)
  · obtain ⟨a, b, rfl⟩ : ∃ a b, l = [a, b] := by
      have h3 : l.length = 2 := h2.symm
      match l, h3 with
      | [a, b], _ => exact ⟨a, b, rfl⟩
    exact rtyped_15 a b g o cap w (by simpa using hc 0 a rfl) (by simpa using hc 1 b rfl)
  · obtain ⟨a, b, rfl⟩ : ∃ a b, l = [a, b] := by
      have h3 : l.length = 2 := h2.symm
      match l, h3 with
      | [a, b], _ => exact ⟨a, b, rfl⟩
    exact rtyped_16 a b g o cap w (by simpa using hc 0 a rfl) (by simpa using hc 1 b rfl)
  · obtain ⟨a, b, rfl⟩ : ∃ a b, l = [a, b] := by
      have h3 : l.length = 2 := h2.symm
      match l, h3 with
      | [a, b], _ => exact ⟨a, b, rfl⟩
    exact rtyped_17 a b g o cap w (by simpa using hc 0 a rfl) (by simpa using hc 1 b rfl)
  · obtain ⟨a, b, rfl⟩ : ∃ a b, l = [a, b] := by
      have h3 : l.length = 2 := h2.symm
      match l, h3 with
      | [a, b], _ => exact ⟨a, b, rfl⟩
    exact rtyped_18 a b g o cap w (by simpa using hc 0 a rfl) (by simpa using hc 1 b rfl)
  · obtain ⟨a, b, rfl⟩ : ∃ a b, l = [a, b] := by
      have h3 : l.length = 2 := h2.symm
      match l, h3 with
      | [a, b], _ => exact ⟨a, b, rfl⟩
    exact rtyped_19 a b g o cap w (by simpa using hc 0 a rfl) (by simpa using hc 1 b rfl)
  · obtain ⟨a, b, rfl⟩ : ∃ a b, l = [a, b] := by
      have h3 : l.length = 2 := h2.symm
      match l, h3 with
      | [a, b], _ => exact ⟨a, b, rfl⟩
    exact rtyped_20 a b g o cap w (by simpa using hc 0 a rfl) (by simpa using hc 1 b rfl)
  · obtain ⟨a, b, rfl⟩ : ∃ a b, l = [a, b] := by
      have h3 : l.length = 2 := h2.symm
      match l, h3 with
      | [a, b], _ => exact ⟨a, b, rfl⟩
    exact rtyped_21 a b g o cap w (by simpa using hc 0 a rfl) (by simpa using hc 1 b rfl)
  · obtain ⟨a, b, c, rfl⟩ : ∃ a b c, l = [a, b, c] := by
      have h3 : l.length = 3 := h2.symm
      match l, h3 with
      | [a, b, c], _ => exact ⟨a, b, c, rfl⟩
    exact rtyped_22 a b c g o cap w (by simpa using hc 0 a rfl) (by simpa using hc 1 b rfl) (by simpa using hc 2 c rfl)

theorem tall_step {l : List Int} {k : Nat} {y : Int} (hy : l[k]? = some y) (hk : (l.take k).all (fun t => decide (1 ≤ t ∧ t ≤ 4)) = true) (h : 1 ≤ y ∧ y ≤ 4) : (l.take (k + 1)).all (fun t => decide (1 ≤ t ∧ t ≤ 4)) = true := by
  have hlt : k < l.length := (List.getElem?_eq_some_iff.1 hy).1
  have he : l[k] = y := (List.getElem?_eq_some_iff.1 hy).2
  rw [List.take_succ_eq_append_getElem hlt, List.all_append, hk, he]
  simp [h]
theorem tall_no {l : List Int} {k : Nat} {y : Int} (hy : l[k]? = some y) (h : ¬ (1 ≤ y ∧ y ≤ 4)) : l.all (fun t => decide (1 ≤ t ∧ t ≤ 4)) = false := by
  rw [List.all_eq_false]
  exact ⟨y, List.mem_of_getElem? hy, by simpa using h⟩

theorem rtype_bad (op : Int) (a : Option Addr) (n cap : Nat) (w : World) (h : operN op = 0 ∨ (0 < operN op ∧ n ≠ operN op)) :
    Calls Tryz.prog 39 #[.int .i64 op, .slice a n cap] w (RetQ (.tuple #[.int .i64 0, .int .i64 2]) w) := by
  have C := Lib.hid (operands_any op)
  obtain ⟨k, hk⟩ : ∃ k, k = operN op := ⟨_, rfl⟩
  rw [← hk] at C h
  clear hk
  rcases h with rfl | ⟨h1, h2⟩
  · go_enter Tryz.func39, Tryz.ntmps39
    go_wp2_with (go_at_call 99; refine (C.out _).mono ?_; rintro e w' ⟨rfl, rfl⟩)
    go_ret2
    exact ⟨rfl, 0, rfl⟩
  · have h3 : ((k : Int) == 0) = false := by rw [beq_eq_false_iff_ne]; omega
    have h4 : ((n : Int) != (k : Int)) = true := by rw [bne_iff_ne]; omega
    clear h1 h2
    go_enter Tryz.func39, Tryz.ntmps39
    go_wp2_with (go_at_call 99; refine (C.out _).mono ?_; rintro e w' ⟨rfl, rfl⟩)
    go_ret2
    exact ⟨rfl, 0, rfl⟩

set_option maxHeartbeats 1600000 in
theorem rtype_good (op : Int) (l : List Int) (v : Value) (w : World) (hv : InL w v l) (h : knownOp op l.length = true) :
    Calls Tryz.prog 39 #[.int .i64 op, v] w (RetQ (typeR (typeE op l)) w) := by
  have C := Lib.hid (operands_any op)
  have CT := Lib.hid (typed9_any op l v w hv h)
  have HE : Hid (l.all (fun t => decide (1 ≤ t ∧ t ≤ 4)) = false → typeE op l = (0, 2)) := fun h1 => by
    unfold typeE; rw [if_neg (by rw [h]; decide), if_pos h1]
  have HT : Hid (l.all (fun t => decide (1 ≤ t ∧ t ≤ 4)) = true → typeE op l = if (opS op.toNat).typed l = 0 then (0, 12) else ((opS op.toNat).typed l, 0)) := fun h1 => by
    unfold typeE; rw [if_neg (by rw [h]; decide), if_neg (by rw [h1]; decide)]
  have hop : 4 ≤ op ∧ op ≤ 22 := by
    unfold knownOp at h
    rw [Bool.and_eq_true, decide_eq_true_eq, decide_eq_true_eq] at h
    exact h.1
  have hk0 := operN_pos hop
  have hn : operN op = l.length := by
    have hl : 0 < l.length := by
      rcases Nat.eq_zero_or_pos l.length with e | e
      · rw [e] at h
        unfold knownOp at h
        rw [Bool.and_eq_true, decide_eq_true_eq, decide_eq_true_eq] at h
        have h2 := h.2
        unfold operN at hk0; rw [if_pos hop] at hk0; omega
      · exact e
    rw [operN_eq op _ hl, decide_eq_true_eq] at h; exact h
  rw [hn] at C hk0
  obtain ⟨g, o, cap, rfl, hc1, hc2, hc⟩ := hv
  obtain ⟨n, hln⟩ : ∃ n, n = l.length := ⟨_, rfl⟩
  rw [← hln] at C CT hk0 ⊢
  rw [← hln] at hc1
  have HC := Lib.hid hc
  have HLN := Lib.hid hln
  have h3 : ((n : Int) == 0) = false := by rw [beq_eq_false_iff_ne]; omega
  have h4 : ((n : Int) != (n : Int)) = false := by simp
  clear h hn hop hk0 hc hln
  go_enter Tryz.func39, Tryz.ntmps39
  go_wp2_with (go_at_call 99; refine (C.out _).mono ?_; rintro e w' ⟨rfl, rfl⟩)
  go_loopw [6] (fun iv wr => ∃ k : Nat, k ≤ n ∧ iv = .int .i64 (k : Nat) ∧ Hid ((l.take k).all (fun t => decide (1 ≤ t ∧ t ≤ 4)) = true) ∧ wr = w) (fun iv _ => n - (intOf iv).toNat)
  case atStart => exact ⟨0, Nat.zero_le _, rfl, rfl, rfl⟩
  case round =>
    obtain ⟨k, hk, rfl, hall, rfl⟩ := hrel
    by_cases hlt : k < n
    · obtain ⟨y, hy⟩ : ∃ y, l[k]? = some y := ⟨_, List.getElem?_eq_getElem (by rw [← HLN.out]; exact hlt)⟩
      have hcy := HC.out k y hy
      have HY := Lib.hid hy
      clear hy
      by_cases hy1 : y < 1
      · have HF : Hid (typeE op l = (0, 2)) := HE.out (tall_no HY.out (by omega))
        go_wp2
        go_ret2
        exact ⟨by rw [HF.out]; rfl, 0, rfl⟩
      · by_cases hy2 : 4 < y
        · have HF : Hid (typeE op l = (0, 2)) := HE.out (tall_no HY.out (by omega))
          go_wp2
          go_ret2
          exact ⟨by rw [HF.out]; rfl, 0, rfl⟩
        · have HS : Hid ((l.take (k + 1)).all (fun t => decide (1 ≤ t ∧ t ≤ 4)) = true) := tall_step HY.out hall.out (by omega)
          go_wp2
          exact ⟨⟨k + 1, by omega, by go_num, HS.out, by trivial⟩, by show _ < _; simp [intOf]; omega⟩
    · obtain rfl : k = n := by omega
      have HF := HT.out (by have := hall.out; rwa [HLN.out, List.take_length] at this)
      obtain ⟨t, ht⟩ : ∃ t, t = (opS op.toNat).typed l := ⟨_, rfl⟩
      rw [← ht] at CT HF
      clear ht
      by_cases ht0 : t = 0
      · subst ht0
        rw [if_pos rfl] at HF
        have HF := Lib.hid HF
        rename_i HF'
        clear HF'
        go_wp2_with (go_at_call 104; refine CT.out.mono ?_; rintro e w' ⟨rfl, kq, rfl⟩)
        go_ret2
        exact ⟨by rw [HF.out]; rfl, kq, rfl⟩
      · rw [if_neg ht0] at HF
        have HF := Lib.hid HF
        rename_i HF'
        have ht1 : (t == 0) = false := by rw [beq_eq_false_iff_ne]; exact ht0
        clear HF' ht0
        go_wp2_with (go_at_call 104; refine CT.out.mono ?_; rintro e w' ⟨rfl, kq, rfl⟩)
        go_ret2
        exact ⟨by rw [HF.out]; rfl, kq, rfl⟩

theorem rtype_any (op : Int) (l : List Int) (v : Value) (w : World) (hv : InS w v l) :
    Calls Tryz.prog 39 #[.int .i64 op, v] w (RetQ (typeR (typeE op l)) w) := by
  have bad : ∀ a cap, v = .slice a l.length cap → knownOp op l.length = false → Calls Tryz.prog 39 #[.int .i64 op, v] w (RetQ (typeR (typeE op l)) w) := by
    rintro a cap rfl h
    have e : typeE op l = (0, 2) := by unfold typeE; rw [if_pos h]
    rw [e]
    refine rtype_bad op a _ cap w ?_
    by_cases h1 : 4 ≤ op ∧ op ≤ 22
    · have h0 := operN_pos h1
      right
      refine ⟨h0, fun h2 => ?_⟩
      rw [operN_eq op _ (by omega), decide_eq_false_iff_not] at h
      omega
    · left; unfold operN; rw [if_neg h1]
  cases h : knownOp op l.length with
  | false =>
    obtain ⟨a, cap, e, -⟩ := hv.shape
    exact bad a cap e h
  | true =>
    rcases hv with ⟨a, cap, rfl, rfl⟩ | hv
    · exfalso
      unfold knownOp at h
      rw [Bool.and_eq_true, decide_eq_true_eq, decide_eq_true_eq] at h
      have h0 := operN_pos h.1
      have h2 := h.2
      unfold operN at h0
      rw [if_pos h.1] at h0
      simp at h2; omega
    · exact rtype_good op l v w hv h
end Go.Proofs.YtemhidlaaommaaaGreatDoor
