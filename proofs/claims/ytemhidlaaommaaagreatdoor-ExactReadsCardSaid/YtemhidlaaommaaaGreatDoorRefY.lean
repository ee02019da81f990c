/- The reference's values, contracts: guess, Read. -/
import Derived.Test.YtemhidlaaommaaaGreatDoorE1
import Derived.Test.YtemhidlaaommaaaGreatDoorGuessP
import Derived.Test.YtemhidlaaommaaaGreatDoorRefQ
import Derived.Test.YtemhidlaaommaaaGreatDoorRefX
namespace Go.Proofs.YtemhidlaaommaaaGreatDoor
open Go.RowKit

theorem lit_eq {s : ByteArray} {l : List UInt8} (h : s.data.toList = l) : (s.toList == l) = true := by rw [ByteArray.toList_eq, h]; simp
theorem lit_ne {s : ByteArray} {l : List UInt8} (h : s.data.toList ≠ l) : (s.toList == l) = false := by rw [ByteArray.toList_eq, beq_eq_false_iff_ne]; exact h
/-- which bytes a string begins with -/
theorem head_at {s : ByteArray} {c : UInt8} {n : Int} (hc : (c.toNat : Int) = n) (h : s.data.toList.head? = some c) : ∀ hi : 0 < s.size, ((s[0].toNat : Int) == n) = true := fun hi => by
  cases hl : s.data.toList with
  | nil => rw [hl] at h; cases h
  | cons a t => rw [hl] at h; simp only [List.head?_cons, Option.some.injEq] at h; subst h; rw [byte0 hl hi, hc]; simp
theorem head_not {s : ByteArray} {c : UInt8} {n : Int} (hc : (c.toNat : Int) = n) (h : s.data.toList.head? ≠ some c) : ∀ hi : 0 < s.size, ((s[0].toNat : Int) == n) = false := fun hi => by
  cases hl : s.data.toList with
  | nil => have := lenB s; rw [hl] at this; simp at this; omega
  | cons a t =>
    rw [hl] at h
    rw [byte0 hl hi, beq_eq_false_iff_ne, ← hc]
    intro e
    apply h
    rw [List.head?_cons, UInt8.toNat_inj.1 (by omega : a.toNat = c.toNat)]

theorem guess_true (w : World) : Calls Tryz.prog 97 #[.string ⟨#[116, 114, 117, 101]⟩] w (RetV (truthV true).v w) := by
  have C := Lib.hid (fun w1 => truth9_any true w1)
  have HR := Lib.hid (ResV.made w 45)
  have HB := Lib.hid (below_alloc w (.cells #[.int .i64 0, .int .i64 0, .int .i64 0, .string ⟨#[]⟩] 45))
  go_enter Tryz.func97, Tryz.ntmps97
  go_wp2_with fail
  refine (C.out _).mono ?_
  rintro e w1 ⟨rfl, hb⟩
  obtain ⟨⟨r0, r1, r2, r3⟩, f0, f1, f2, f3⟩ := HR.out.later hb (by simp)
  have HB1 := Lib.hid (below_keep HB.out hb)
  clear hb C
  go_wp2
  refine bodyPost_ret (by simp [results, Tryz.results97, go_sem, r0, r1, r2, r3]; try rfl) rfl ?_
  exact ⟨rfl, below_set4 HB1.out⟩
theorem guess_false (w : World) : Calls Tryz.prog 97 #[.string ⟨#[102, 97, 108, 115, 101]⟩] w (RetV (truthV false).v w) := by
  have C := Lib.hid (fun w1 => truth9_any false w1)
  have HR := Lib.hid (ResV.made w 45)
  have HB := Lib.hid (below_alloc w (.cells #[.int .i64 0, .int .i64 0, .int .i64 0, .string ⟨#[]⟩] 45))
  go_enter Tryz.func97, Tryz.ntmps97
  go_wp2_with fail
  refine (C.out _).mono ?_
  rintro e w1 ⟨rfl, hb⟩
  obtain ⟨⟨r0, r1, r2, r3⟩, f0, f1, f2, f3⟩ := HR.out.later hb (by simp)
  have HB1 := Lib.hid (below_keep HB.out hb)
  clear hb C
  go_wp2
  refine bodyPost_ret (by simp [results, Tryz.results97, go_sem, r0, r1, r2, r3]; try rfl) rfl ?_
  exact ⟨rfl, below_set4 HB1.out⟩

set_option maxHeartbeats 1600000 in
theorem guess_missN (s : ByteArray) (w : World) (t1 : (s.toList == [116, 114, 117, 101]) = false) (t2 : (s.toList == [102, 97, 108, 115, 101]) = false) (l1 : 1 < s.size) (l2 : s.size < 5) (h0 : ∀ hi : 0 < s.size, ((s[0].toNat : Int) == 63) = true)
    (hp : parseD (s.data.toList.drop 1) = none) :
    Calls Tryz.prog 97 #[.string s] w (RetV zeroV.v w) := by
  have C := fun w1 => number9_any w1 (s.extract 1 s.size) (by rw [ByteArray.size_extract]; omega)
  simp only [extract_tail, hp] at C
  have C := Lib.hid C
  rename_i C'
  clear C' hp
  have HR := Lib.hid (ResV.made w 45)
  have HB := Lib.hid (below_alloc w (.cells #[.int .i64 0, .int .i64 0, .int .i64 0, .string ⟨#[]⟩] 45))
  go_enter Tryz.func97, Tryz.ntmps97
  go_wp2_with fail
  refine (C.out _).mono ?_
  rintro e w1 ⟨rfl, hb⟩
  obtain ⟨⟨r0, r1, r2, r3⟩, f0, f1, f2, f3⟩ := HR.out.later hb (by simp)
  have HB1 := Lib.hid (below_keep HB.out hb)
  clear hb C
  go_wp2
  refine bodyPost_ret (by simp [results, Tryz.results97, go_sem, r0, r1, r2, r3]; try rfl) rfl ?_
  exact ⟨rfl, below_set4 HB1.out⟩

set_option maxHeartbeats 1600000 in
theorem guess_missS (s : ByteArray) (n : Nat) (w : World) (t1 : (s.toList == [116, 114, 117, 101]) = false) (t2 : (s.toList == [102, 97, 108, 115, 101]) = false) (l1 : 1 < s.size) (l2 : s.size < 5) (h0 : ∀ hi : 0 < s.size, ((s[0].toNat : Int) == 63) = true)
    (hp : parseD (s.data.toList.drop 1) = some n) :
    Calls Tryz.prog 97 #[.string s] w (RetV (missV n).v w) := by
  have C := fun w1 => number9_any w1 (s.extract 1 s.size) (by rw [ByteArray.size_extract]; omega)
  simp only [extract_tail, hp] at C
  have C := Lib.hid C
  rename_i C'
  have hn : n < 1000000 := by
    have := parseD_lt (K := 3) hp (by rw [List.length_drop, lenB]; omega)
    omega
  clear C' hp
  have D : Hid (∀ w1 v, IsN B9 w1 v n → Calls Tryz.prog 125 #[v, .int .i64 0] w1 fun e w' => e = .returned (.int .u64 (n : Nat)) ∧ w1 = w') := fun w1 v hv => by
    obtain ⟨m, D, r1, s1⟩ := hv
    have l1 : m ≤ 2 := r1.len_le (k := 2) (by decide) (show n < 1000000000 ^ 2 by omega)
    have hval := short_val r1 l1
    have := digit_any 0 s1 r1.dig (by omega) (by omega)
    rwa [show cutD D m 0 = n from by omega] at this
  have E := Lib.hid (fun w1 => missing9_any n w1)
  have HR := Lib.hid (ResV.made w 45)
  have HB := Lib.hid (below_alloc w (.cells #[.int .i64 0, .int .i64 0, .int .i64 0, .string ⟨#[]⟩] 45))
  go_enter Tryz.func97, Tryz.ntmps97
  go_wp2_with fail
  refine (C.out _).mono ?_
  rintro e w1 ⟨v1, rfl, hv1, hb⟩
  have HR1 := Lib.hid (HR.out.later hb (by simp))
  have HB1 := Lib.hid (below_keep HB.out hb)
  have D1 := Lib.hid (D.out _ _ hv1)
  obtain ⟨a1, n1, c1, rfl, -⟩ := hv1.shape (by decide)
  clear hb C hv1
  go_wp2_with fail
  refine D1.out.mono ?_
  rintro e w2 ⟨rfl, rfl⟩
  go_wp2_with fail
  refine (E.out _).mono ?_
  rintro e w3 ⟨rfl, hb⟩
  obtain ⟨⟨r0, r1, r2, r3⟩, f0, f1, f2, f3⟩ := HR1.out.later hb (World.block_lt_of_cell? _ _ HR1.out.box.kind)
  have HB2 := Lib.hid (below_keep HB1.out hb)
  clear hb D1 E
  go_wp2
  refine bodyPost_ret (by simp [results, Tryz.results97, go_sem, r0, r1, r2, r3]; try rfl) rfl ?_
  exact ⟨rfl, below_set4 HB2.out⟩

/-- the second case does not hold -/
def W2 (s : ByteArray) : Prop := (decide ((1 : Int) < (s.size : Int)) = true ∧ decide ((s.size : Int) < 5) = false) ∨ (decide ((1 : Int) < (s.size : Int)) = true ∧ decide ((s.size : Int) < 5) = true ∧ ∀ hi : 0 < s.size, ((s[0].toNat : Int) == 63) = false)

theorem getD_get {s : ByteArray} {i : Nat} (h : i < s.size) : s.data.toList.getD i 0 = s[i] := by
  rw [List.getD_eq_getElem?_getD, List.getElem?_eq_getElem (by rw [lenB]; exact h)]; rfl
set_option maxHeartbeats 3200000 in
set_option maxRecDepth 100000 in
theorem guess_text (s : ByteArray) (w : World) (t1 : (s.toList == [116, 114, 117, 101]) = false) (t2 : (s.toList == [102, 97, 108, 115, 101]) = false) (hw : W2 s) (h0 : ∀ hi : 0 < s.size, ((s[0].toNat : Int) == 39) = true) (l1 : 1 < s.size) (hs : s.size ≤ 20000) :
    Calls Tryz.prog 97 #[.string s] w (RetV (textV (gq s.data.toList 40 1 [])).v w) := by
  obtain ⟨R, hR⟩ : ∃ R, R = gq s.data.toList 40 1 [] := ⟨_, rfl⟩
  rw [← hR]
  have HR0 := Lib.hid hR
  have HB := Lib.hid (below_alloc w (.cells #[.int .i64 0, .int .i64 0, .int .i64 0, .string ⟨#[]⟩] 45))
  clear hR
  rcases hw with ⟨q1, q2⟩ | ⟨q1, q2, q3⟩
  all_goals
    go_enter Tryz.func97, Tryz.ntmps97
    go_wp2
    clear q1 q2
    try clear q3
    clear h0 t1 t2
    go_loop [5, 6] (fun tv iv => ∃ (i f : Nat) (T : ByteArray), 1 ≤ i ∧ i ≤ 42 ∧ iv = .int .i64 (i : Nat) ∧ tv = .string T ∧ T.size ≤ 42 ∧ T.size ≤ i ∧ 41 ≤ f + i ∧ Hid (gq s.data.toList f i T.data.toList = R)) (fun _ iv => 50 - (intOf iv).toNat)
    case atStart => exact ⟨1, 40, ⟨#[]⟩, Nat.le_refl _, by decide, rfl, rfl, by decide, by decide, by decide, HR0.out.symm⟩
    case round =>
      obtain ⟨i, f, T, hi1, hi2, rfl, rfl, hT1, hT2, hf, hg⟩ := hrel
      by_cases hc : i < s.size - 1 ∧ i < 40
      · obtain ⟨hc1, hc2⟩ := hc
        have hlt : i < s.size := by omega
        obtain ⟨f, rfl⟩ : ∃ g, f = g + 1 := ⟨f - 1, by omega⟩
        have HG : Hid (gq s.data.toList f (if s[i] = 39 then i + 2 else i + 1) (T.data.toList ++ [s[i]]) = R) := by
          show _ = _
          rw [← hg.out, gq_step f _ ⟨by rw [lenB]; exact hc1, hc2⟩, getD_get hlt]
        have hx := ext_one (S := s) rfl (show i < s.data.toList.length by rw [lenB]; exact hlt)
        have hx' : (s.extract i (i + 1)).data.toList = [s[i]] := hx
        have HF : Hid ((T ++ s.extract i (i + 1)).data.toList = T.data.toList ++ [s[i]]) := by
          show _ = _
          rw [ByteArray.data_append, Array.toList_append, hx']
        have HL : Hid ((T ++ s.extract i (i + 1)).size = T.size + 1) := by
          show _ = _
          rw [← lenB, HF.out, List.length_append, lenB]; rfl
        have h3 : decide ((i : Int) < (s.size : Int) - 1) = true := by rw [decide_eq_true_eq]; omega
        by_cases e : s[i] = 39
        · have e1 : ∀ hi : i < s.size, ((s[i].toNat : Int) == 39) = true := fun _ => by rw [e]; rfl
          have HG2 : Hid (gq s.data.toList f (i + 2) (T ++ s.extract i (i + 1)).data.toList = R) := by
            show _ = _
            rw [HF.out, ← HG.out, if_pos e]
          clear hx hx' e
          go_wp2
          exact ⟨⟨i + 2, f, _, by omega, by omega, rfl, rfl, by rw [HL.out]; omega, by rw [HL.out]; omega, by omega, HG2.out⟩, by show 50 - (i + 2) < 50 - i; omega⟩
        · have e1 : ∀ hi : i < s.size, ((s[i].toNat : Int) == 39) = false := fun _ => by
            rw [beq_eq_false_iff_ne]
            intro h
            exact e (UInt8.toNat_inj.1 (by show _ = 39; omega))
          have HG2 : Hid (gq s.data.toList f (i + 1) (T ++ s.extract i (i + 1)).data.toList = R) := by
            show _ = _
            rw [HF.out, ← HG.out, if_neg e]
          clear hx hx' e
          go_wp2
          exact ⟨⟨i + 1, f, _, by omega, by omega, rfl, rfl, by rw [HL.out]; omega, by rw [HL.out]; omega, by omega, HG2.out⟩, by show 50 - (i + 1) < 50 - i; omega⟩
      · have hq : decide ((i : Int) < (s.size : Int) - 1) = false ∨ (decide ((i : Int) < (s.size : Int) - 1) = true ∧ decide ((i : Int) < 40) = false) := by
          by_cases h : i < s.size - 1
          · right; exact ⟨by rw [decide_eq_true_eq]; omega, by rw [decide_eq_false_iff_not]; omega⟩
          · left; rw [decide_eq_false_iff_not]; omega
        have HF : Hid (T = ⟨R.toArray⟩) := bytes_eq (by rw [← hg.out, gq_end _ _ (by rw [lenB]; exact hc)])
        clear hc
        rcases hq with e1 | ⟨e1, e2⟩
        all_goals
          go_wp2
          refine bodyPost_ret (by simp [results, Tryz.results97, go_sem]; try rfl) rfl ?_
          first | exact ⟨by rw [HF.out], below_alloc _ _⟩ | exact ⟨by rw [HF.out]; rfl, below_alloc _ _⟩

/-- neither the second case holds nor the third -/
def W3 (s : ByteArray) : Prop := decide ((1 : Int) < (s.size : Int)) = false ∨ (1 < s.size ∧ decide ((1 : Int) < (s.size : Int)) = true ∧ decide ((s.size : Int) < 5) = false ∧ ∀ hi : 0 < s.size, ((s[0].toNat : Int) == 39) = false) ∨
  (1 < s.size ∧ decide ((1 : Int) < (s.size : Int)) = true ∧ decide ((s.size : Int) < 5) = true ∧ (∀ hi : 0 < s.size, ((s[0].toNat : Int) == 63) = false) ∧ ∀ hi : 0 < s.size, ((s[0].toNat : Int) == 39) = false)

set_option maxHeartbeats 3200000 in
theorem guess_none (s : ByteArray) (w : World) (t1 : (s.toList == [116, 114, 117, 101]) = false) (t2 : (s.toList == [102, 97, 108, 115, 101]) = false) (hw : W3 s) (l : 30 ≤ s.size) :
    Calls Tryz.prog 97 #[.string s] w (RetV zeroV.v w) := by
  have HB := Lib.hid (below_alloc w (.cells #[.int .i64 0, .int .i64 0, .int .i64 0, .string ⟨#[]⟩] 45))
  have h30 : decide ((s.size : Int) < 30) = false := by rw [decide_eq_false_iff_not]; omega
  rcases hw with q1 | ⟨q0, q1, q2, q3⟩ | ⟨q0, q1, q2, q3, q4⟩
  all_goals
    go_enter Tryz.func97, Tryz.ntmps97
    go_wp2
    refine bodyPost_ret (by simp [results, Tryz.results97, go_sem]; try rfl) rfl ?_
    first | exact ⟨rfl, below_set4 HB.out⟩ | exact ⟨rfl, below_alloc _ _⟩

set_option maxHeartbeats 3200000 in
theorem guess_ratN (s : ByteArray) (w : World) (t1 : (s.toList == [116, 114, 117, 101]) = false) (t2 : (s.toList == [102, 97, 108, 115, 101]) = false) (hw : W3 s) (l : s.size < 30) (hp : parseQ s.data.toList = none) :
    Calls Tryz.prog 97 #[.string s] w (RetV zeroV.v w) := by
  have C := fun w1 => parse9_any s w1 (by omega)
  simp only [hp] at C
  have C := Lib.hid C
  rename_i C'
  clear C' hp
  have HR := Lib.hid (ResV.made w 45)
  have HB := Lib.hid (below_alloc w (.cells #[.int .i64 0, .int .i64 0, .int .i64 0, .string ⟨#[]⟩] 45))
  have h30 : decide ((s.size : Int) < 30) = true := by rw [decide_eq_true_eq]; omega
  rcases hw with q1 | ⟨q0, q1, q2, q3⟩ | ⟨q0, q1, q2, q3, q4⟩
  all_goals
    go_enter Tryz.func97, Tryz.ntmps97
    go_wp2_with fail
    refine (C.out _).mono ?_
    rintro e w1 ⟨rfl, hb⟩
    have HR1 := HR.out.later hb (by simp)
    obtain ⟨⟨r0, r1, r2, r3⟩, f0, f1, f2, f3⟩ := HR1.later (below_alloc w1 (.cells #[.bool false, .slice none 0 0, .slice none 0 0] 28)) (World.block_lt_of_cell? _ _ HR1.box.kind)
    have hB1 := below_keep HB.out hb
    have HB1 := Lib.hid (hB1.alloc hB1.size (.cells #[.bool false, .slice none 0 0, .slice none 0 0] 28))
    clear hb C HR1 hB1
    go_wp2
    refine bodyPost_ret (by simp [results, Tryz.results97, go_sem, r0, r1, r2, r3]; try rfl) rfl ?_
    exact ⟨rfl, below_set4 HB1.out⟩

set_option maxHeartbeats 3200000 in
theorem guess_ratS (s : ByteArray) (q : Rat) (w : World) (t1 : (s.toList == [116, 114, 117, 101]) = false) (t2 : (s.toList == [102, 97, 108, 115, 101]) = false) (hw : W3 s) (l : s.size < 30) (hp : parseQ s.data.toList = some q) :
    Calls Tryz.prog 97 #[.string s] w (RetV (valQ q).v w) := by
  have C := fun w1 => parse9_any s w1 (by omega)
  simp only [hp] at C
  have C := Lib.hid C
  rename_i C'
  clear C' hp
  have D := Lib.hid (fun w1 v (h : Q9 w1 v q) => value9_any h)
  obtain ⟨⟨y0, y1, y2, y3⟩, hy⟩ : ∃ y, y = valQ q := ⟨_, rfl⟩
  rw [← hy] at D ⊢
  clear hy
  have HR := Lib.hid (ResV.made w 45)
  have HB := Lib.hid (below_alloc w (.cells #[.int .i64 0, .int .i64 0, .int .i64 0, .string ⟨#[]⟩] 45))
  have h30 : decide ((s.size : Int) < 30) = true := by rw [decide_eq_true_eq]; omega
  rcases hw with q1 | ⟨q0, q1, q2, q3⟩ | ⟨q0, q1, q2, q3, q4⟩
  all_goals
    go_enter Tryz.func97, Tryz.ntmps97
    go_wp2_with fail
    refine (C.out _).mono ?_
    rintro e w1 ⟨v1, rfl, ⟨vn, vd, rfl, hn, hd⟩, hb⟩
    obtain ⟨a1, n1, c1, rfl, -⟩ := hn.shape (by decide)
    obtain ⟨a2, n2, c2, rfl, -⟩ := hd.shape (by decide)
    obtain ⟨b, hb1⟩ : ∃ b, b = qneg q := ⟨_, rfl⟩
    rw [← hb1]
    have HR1 := HR.out.later hb (by simp)
    have HR2 := Lib.hid (HR1.later (below_alloc w1 (.cells #[.bool b, .slice a1 n1 c1, .slice a2 n2 c2] 28)) (World.block_lt_of_cell? _ _ HR1.box.kind))
    have hB1 := below_keep HB.out hb
    have HB1 := Lib.hid (hB1.alloc hB1.size (.cells #[.bool b, .slice a1 n1 c1, .slice a2 n2 c2] 28))
    have D1 := Lib.hid (D.out (w1.alloc (.cells #[.bool b, .slice a1 n1 c1, .slice a2 n2 c2] 28)) (.agg #[.bool b, .slice a1 n1 c1, .slice a2 n2 c2]) ⟨_, _, by rw [hb1], hn.later (below_alloc _ _), hd.later (below_alloc _ _)⟩)
    clear hb C D HR1 hB1 hn hd hb1
    go_wp2_with fail
    refine D1.out.mono ?_
    rintro e w2 ⟨rfl, hb⟩
    obtain ⟨⟨r0, r1, r2, r3⟩, f0, f1, f2, f3⟩ := HR2.out.later hb (World.block_lt_of_cell? _ _ HR2.out.box.kind)
    have HB2 := Lib.hid (below_keep HB1.out hb)
    clear hb D1
    go_wp2
    refine bodyPost_ret (by simp [results, Tryz.results97, go_sem, r0, r1, r2, r3]; try rfl) rfl ?_
    exact ⟨rfl, below_set4 HB2.out⟩

theorem guess_any (s : ByteArray) (w : World) (hs : s.size ≤ 20000) :
    Calls Tryz.prog 97 #[.string s] w (RetV (guessV s.data.toList).v w) := by
  unfold guessV
  by_cases h1 : s.data.toList = sTrue
  · rw [if_pos (.inl h1)]
    have e : s = ⟨#[116, 114, 117, 101]⟩ := bytes_eq h1
    subst e
    exact guess_true w
  by_cases h2 : s.data.toList = sFalse
  · rw [if_pos (.inr h2)]
    have e : s = ⟨#[102, 97, 108, 115, 101]⟩ := bytes_eq h2
    subst e
    exact guess_false w
  rw [if_neg (fun h => h.elim h1 h2), lenB]
  have t1 := lit_ne h1
  have t2 := lit_ne h2
  by_cases h3 : 1 < s.size ∧ s.size < 5 ∧ s.data.toList.head? = some 63
  · rw [if_pos h3]
    have h0 := head_at (n := 63) rfl h3.2.2
    cases hp : parseD (s.data.toList.drop 1) with
    | none => exact guess_missN s w t1 t2 h3.1 h3.2.1 h0 hp
    | some n => exact guess_missS s n w t1 t2 h3.1 h3.2.1 h0 hp
  rw [if_neg h3]
  by_cases h4 : 1 < s.size ∧ s.data.toList.head? = some 39
  · rw [if_pos h4]
    refine guess_text s w t1 t2 ?_ (head_at (n := 39) rfl h4.2) h4.1 hs
    have q1 : decide ((1 : Int) < (s.size : Int)) = true := by rw [decide_eq_true_eq]; omega
    by_cases h5 : s.size < 5
    · exact .inr ⟨q1, by rw [decide_eq_true_eq]; omega, head_not (c := 63) (n := 63) rfl (by rw [h4.2]; decide)⟩
    · exact .inl ⟨q1, by rw [decide_eq_false_iff_not]; omega⟩
  rw [if_neg h4]
  have hw : W3 s := by
    by_cases l1 : 1 < s.size
    · have q1 : decide ((1 : Int) < (s.size : Int)) = true := by rw [decide_eq_true_eq]; omega
      have q2 := head_not (s := s) (c := 39) (n := 39) rfl (fun h => h4 ⟨l1, h⟩)
      by_cases h5 : s.size < 5
      · exact .inr (.inr ⟨l1, q1, by rw [decide_eq_true_eq]; omega, head_not (n := 63) (c := 63) rfl (fun h => h3 ⟨l1, h5, h⟩), q2⟩)
      · exact .inr (.inl ⟨l1, q1, by rw [decide_eq_false_iff_not]; omega, q2⟩)
    · exact .inl (by rw [decide_eq_false_iff_not]; omega)
  by_cases h5 : s.size < 30
  · rw [if_pos h5]
    cases hp : parseQ s.data.toList with
    | none => exact guess_ratN s w t1 t2 hw h5 hp
    | some q => exact guess_ratS s q w t1 t2 hw h5 hp
  · rw [if_neg h5]; exact guess_none s w t1 t2 hw (by omega)

theorem gq_len (l : List UInt8) : ∀ f i t, (gq l f i t).length ≤ t.length + f
  | 0, i, t => by simp [gq]
  | f + 1, i, t => by
    rw [gq]; split
    · have := gq_len l f (if l.getD i 0 = 39 then i + 2 else i + 1) (t ++ [l.getD i 0])
      simp only [List.length_append, List.length_singleton] at this; omega
    · omega
theorem guess_str (l : List UInt8) : (guessV l).str.length ≤ 40 := by
  unfold guessV
  split
  · simp
  split
  · split <;> simp
  split
  · have := gq_len l 40 1 []; simpa using this
  split
  · split
    · unfold valQ; split <;> simp
    · simp
  · simp

set_option maxHeartbeats 1600000 in
theorem rread_any (s : ByteArray) (w : World) (hs : s.size ≤ 20000) :
    Calls Tryz.prog 35 #[.string s] w (RetV (readE (readM s.data.toList)) w) := by
  have CG := Lib.hid (fun w1 => guess_any s w1 hs)
  have hl := guess_str s.data.toList
  obtain ⟨g, hg⟩ : ∃ g, g = guessV s.data.toList := ⟨_, rfl⟩
  rw [← hg] at CG hl
  have CP := fun w1 => rprint_any g w1 (by omega)
  have HR := Lib.hid (ResV.made w 45)
  have HB := Lib.hid (below_alloc w (.cells #[.int .i64 0, .int .i64 0, .int .i64 0, .string ⟨#[]⟩] 45))
  by_cases hr : rightV (readM s.data.toList) = true
  · have e : g = readM s.data.toList := hg.trans (guess_eq hr)
    have hpr : printE g = .tuple #[.string s, .int .i64 0] := by
      unfold printE
      rw [e, if_pos hr, if_pos hr, readM_print hr]
    have hre : readE (readM s.data.toList) = .tuple #[g.v, .int .i64 0] := by unfold readE; rw [e, if_pos hr]
    rw [hre]
    simp only [hpr] at CP
    have CP := Lib.hid CP
    rename_i CP'
    have hss : (s.toList == s.toList) = true := by simp
    obtain ⟨k, n, d, t⟩ := g
    clear CP' hg hl hr e hpr hre hs
    go_enter Tryz.func35, Tryz.ntmps35
    go_wp2_with fail
    refine (CG.out _).mono ?_
    rintro e w1 ⟨rfl, hb⟩
    have HR1 := HR.out.later hb (by simp)
    have HR2 := Lib.hid (HR1.later (below_alloc w1 (.cells #[.int .i64 k, .int .i64 n, .int .i64 d, .string ⟨t.toArray⟩] 45)) (World.block_lt_of_cell? _ _ HR1.box.kind))
    have hB1 := below_keep HB.out hb
    have HB1 := Lib.hid (hB1.alloc hB1.size (.cells #[.int .i64 k, .int .i64 n, .int .i64 d, .string ⟨t.toArray⟩] 45))
    clear hb CG HR1 hB1
    go_wp2_with fail
    refine (CP.out _).mono ?_
    rintro e w2 ⟨rfl, hb⟩
    obtain ⟨⟨k0, k1, k2, k3⟩, -⟩ := BoxAt.past ⟨k, n, d, t⟩ hb
    obtain ⟨⟨r0, r1, r2, r3⟩, f0, f1, f2, f3⟩ := HR2.out.later hb (World.block_lt_of_cell? _ _ HR2.out.box.kind)
    have HB2 := Lib.hid (below_keep HB1.out hb)
    clear hb CP
    go_wp2
    refine bodyPost_ret (by simp [results, Tryz.results35, go_sem, r0, r1, r2, r3]; try rfl) rfl ?_
    exact ⟨rfl, below_set4 HB2.out⟩
  · have hre : readE (readM s.data.toList) = .tuple #[zeroV.v, .int .i64 7] := by unfold readE; rw [if_neg hr]
    rw [hre]
    have hn : ¬ (rightV g = true ∧ printV g = s.data.toList) := fun h => hr ((guess_iff _).1 (hg ▸ h))
    obtain ⟨S, z, hpr, hz⟩ : ∃ (S : ByteArray) (z : Int), printE g = .tuple #[.string S, .int .i64 z] ∧ ((z != 0) = true ∨ ((z != 0) = false ∧ (S.toList != s.toList) = true)) := by
      unfold printE
      by_cases h : rightV g = true
      · refine ⟨_, _, rfl, .inr ⟨by rw [if_pos h]; rfl, ?_⟩⟩
        rw [if_pos h, ByteArray.toList_eq, ByteArray.toList_eq, bne_iff_ne]
        exact fun e => hn ⟨h, by simpa using e⟩
      · exact ⟨_, _, rfl, .inl (by rw [if_neg h]; rfl)⟩
    simp only [hpr] at CP
    have CP := Lib.hid CP
    rename_i CP'
    obtain ⟨k, n, d, t⟩ := g
    clear CP' hg hl hr hpr hre hs hn
    have hz' : ((z != 0) = true) ∨ ((z != 0) = false ∧ (S.toList != s.toList) = true ∧ (S.toList == s.toList) = false) := by
      rcases hz with h | ⟨h1, h2⟩
      · exact .inl h
      · exact .inr ⟨h1, h2, by simpa using h2⟩
    clear hz
    rcases hz' with z1 | ⟨z1, z2, z3⟩
    all_goals
      go_enter Tryz.func35, Tryz.ntmps35
      go_wp2_with fail
      refine (CG.out _).mono ?_
      rintro e w1 ⟨rfl, hb⟩
      have HR1 := HR.out.later hb (by simp)
      have HR2 := Lib.hid (HR1.later (below_alloc w1 (.cells #[.int .i64 k, .int .i64 n, .int .i64 d, .string ⟨t.toArray⟩] 45)) (World.block_lt_of_cell? _ _ HR1.box.kind))
      have hB1 := below_keep HB.out hb
      have HB1 := Lib.hid (hB1.alloc hB1.size (.cells #[.int .i64 k, .int .i64 n, .int .i64 d, .string ⟨t.toArray⟩] 45))
      clear hb CG HR1 hB1
      go_wp2_with fail
      refine (CP.out _).mono ?_
      rintro e w2 ⟨rfl, hb⟩
      obtain ⟨⟨r0, r1, r2, r3⟩, f0, f1, f2, f3⟩ := HR2.out.later hb (World.block_lt_of_cell? _ _ HR2.out.box.kind)
      have HB2 := Lib.hid (below_keep HB1.out hb)
      clear hb CP
      go_wp2
      refine bodyPost_ret (by simp [results, Tryz.results35, go_sem, r0, r1, r2, r3]; try rfl) rfl ?_
      exact ⟨rfl, below_set4 HB2.out⟩
end Go.Proofs.YtemhidlaaommaaaGreatDoor
