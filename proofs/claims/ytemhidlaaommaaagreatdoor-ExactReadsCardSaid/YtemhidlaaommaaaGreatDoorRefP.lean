/- The reference's natural numbers, contract: number (the number of a string of digits). -/
import Derived.Test.YtemhidlaaommaaaGreatDoorG2
import Derived.Test.YtemhidlaaommaaaGreatDoorT0
namespace Go.Proofs.YtemhidlaaommaaaGreatDoor
open Go.RowKit

def RetNum9 (o : Option Nat) (w : World) (e : Ending) (w' : World) : Prop :=
  match o with
  | some n => ∃ v, e = .returned (.tuple #[v, .bool true]) ∧ IsN B9 w' v n ∧ Below w.heap.size w w'
  | none => e = .returned (.tuple #[.slice none 0 0, .bool false]) ∧ Below w.heap.size w w'

theorem number_empty (w : World) (s : ByteArray) (h : s.data.toList = []) :
    Calls Tryz.prog 82 #[.string s] w fun e w' => e = .returned (.tuple #[.slice none 0 0, .bool false]) ∧ w = w' := by
  have h1 : s.toList = [] := by rw [ByteArray.toList_eq]; exact h
  have h2 : s.toList.isEmpty = true := by rw [h1]; rfl
  have H := Lib.hid h1
  clear h1 h
  go_enter Tryz.func82, Tryz.ntmps82
  go_wp2
  all_goals first
    | (go_ret2; exact ⟨rfl, rfl⟩)
    | (exfalso; rename_i h3 _; exact h3 H.out)
theorem number_zero (w : World) (s : ByteArray) (hp : 0 < s.size) (h : s[0] = 48) (hl : s.data.toList ≠ [48]) :
    Calls Tryz.prog 82 #[.string s] w fun e w' => e = .returned (.tuple #[.slice none 0 0, .bool false]) ∧ w = w' := by
  have h1 : (s.toList == [48]) = false := by rw [ByteArray.toList_eq]; simpa using hl
  have h2 : s.toList.isEmpty = false := by
    rw [ByteArray.toList_eq, List.isEmpty_eq_false_iff]
    intro e; have := lenB s; rw [e] at this; simp only [List.length_nil] at this; omega
  have h3 : ((s[0].toNat : Int) == 48) = true := by rw [h]; rfl
  clear h hl
  go_enter Tryz.func82, Tryz.ntmps82
  go_wp2
  go_ret2
  exact ⟨rfl, rfl⟩

theorem dval_append (a b : List UInt8) : dval (a ++ b) = dval a * 10 ^ b.length + dval b := by
  generalize hn : b.length = n
  induction n generalizing b with
  | zero => rw [List.length_eq_zero_iff.1 hn, List.append_nil]; simp [dval_nil]
  | succ n ih =>
    rcases snoc_cases b with rfl | ⟨xs, c, rfl⟩
    · simp at hn
    · have hx : xs.length = n := by simpa using hn
      rw [← List.append_assoc, dval_snoc, ih xs hx, dval_snoc, Nat.pow_succ]
      rw [Nat.mul_add, ← Nat.mul_assoc, Nat.mul_comm 10 (dval a), Nat.mul_assoc, Nat.mul_comm 10 (10 ^ n)]
      omega
theorem dval_drop {l : List UInt8} {f : Nat} : dval l = dval (l.take f) * 10 ^ (l.length - f) + dval (l.drop f) := by
  conv => lhs; rw [← List.take_append_drop f l]
  rw [dval_append, List.length_drop]

/-- k digits to the base 10^9 are there, m digits are left -/
structure Num9 (w : World) (l : List UInt8) (m k : Nat) (O : Nat → Nat) (ov : Value) (wr : World) : Prop where
  own : wr.ownsRow w.heap.size 135 1 ov k (rowD O k)
  below : Below w.heap.size w wr
  dig : ∀ i, i < k → O i < B9
  le : m ≤ l.length
  len : m = 0 ∨ l.length = m + 9 * k
  cnt : 9 * k ≤ l.length + 9
  eq : dval l = dval (l.take m) * B9 ^ k + fval B9 O k
theorem Num9.step {w wr w' : World} {l : List UInt8} {m k d : Nat} {O : Nat → Nat} {ov ov' : Value} (h : Num9 w l m k O ov wr) (hm : 0 < m) (hall : l.all isD = true) (hd : d = dval ((l.take m).drop (m - 9)))
    (hown : w'.ownsRow w.heap.size 135 1 ov' (k + 1) (rowD (putD O k d) (k + 1))) (hb : Below w.heap.size w w') : Num9 w l (m - 9) (k + 1) (putD O k d) ov' w' := by
  have hle := h.le
  have hlen := h.len
  have htl : (l.take m).length = m := by rw [List.length_take]; omega
  have hda : ((l.take m).drop (m - 9)).all isD = true := by
    rw [List.all_eq_true] at hall ⊢
    exact fun x hx => hall x (List.mem_of_mem_take (List.mem_of_mem_drop hx))
  have hd9 : d < 1000000000 := by
    have h1 := dval_lt _ hda
    rw [List.length_drop, htl, ← hd] at h1
    exact Nat.lt_of_lt_of_le h1 (Nat.le_trans (Nat.pow_le_pow_right (by decide) (show m - (m - 9) ≤ 9 by omega)) (by decide))
  refine ⟨hown, hb, fun i hi => ?_, by omega, by omega, by omega, ?_⟩
  · by_cases e : i = k
    · subst e; rw [putD_same]; exact hd9
    · rw [putD_other _ _ _ _ e]; exact h.dig i (by omega)
  · rw [fval_succ, putD_same, fval_congr (E := O) k (fun i hi => putD_other _ _ _ _ (by omega)), h.eq, dval_drop (l := l.take m) (f := m - 9), htl, ← hd, List.take_take,
      show min (m - 9) m = m - 9 from by omega]
    by_cases h9 : 9 ≤ m
    · rw [show m - (m - 9) = 9 from by omega, show (10 : Nat) ^ 9 = B9 from rfl, Nat.add_mul, Nat.pow_succ, Nat.mul_assoc, Nat.mul_comm B9 (B9 ^ k), Nat.mul_comm d]
      omega
    · rw [show m - 9 = 0 from by omega, List.take_zero, dval_nil, Nat.zero_mul, Nat.zero_mul, Nat.zero_add, Nat.zero_add, Nat.mul_comm d]
      omega

/-- the digits of a piece so far -/
structure Pc9 (l : List UInt8) (f i D : Nat) : Prop where
  val : D = dval ((l.take i).drop f)
  le : f ≤ i
  lt : D < 10 ^ (i - f)
theorem Pc9.step {s : ByteArray} {f i D : Nat} (h : Pc9 s.data.toList f i D) (hi : i < s.size) (hd : isD s[i] = true) : Pc9 s.data.toList f (i + 1) (10 * D + (s[i].toNat - 48)) := by
  have hle := h.le
  have h9 := (isD_iff _).1 hd
  refine ⟨?_, by omega, ?_⟩
  · rw [take_snocB s i hi, List.drop_append_of_le_length (by rw [List.length_take, lenB]; omega), dval_snoc, ← h.val]
  · rw [show i + 1 - f = (i - f) + 1 from by omega, Nat.pow_succ]
    have := h.lt; omega
theorem extract_pre (s : ByteArray) (n : Nat) : (s.extract 0 n).data.toList = s.data.toList.take n := by
  rw [ByteArray.data_extract, Array.toList_extract]
  simp [List.extract]

set_option maxHeartbeats 3200000 in
set_option maxRecDepth 100000 in
theorem number_loop (w : World) (s : ByteArray) (hp : 0 < s.size) (hs : s.size ≤ 20000) (h : s.data.toList.head? = some 48 → s.data.toList = [48]) :
    Calls Tryz.prog 82 #[.string s] w (RetNum9 (if s.data.toList.all isD = true then some (dval s.data.toList) else none) w) := by
  obtain ⟨R, hR⟩ : ∃ R : Ending → World → Prop, R = RetNum9 (if s.data.toList.all isD = true then some (dval s.data.toList) else none) w := ⟨_, rfl⟩
  rw [← hR]
  have HR := Lib.hid hR
  clear hR
  have h2 : s.toList.isEmpty = false := by
    rw [ByteArray.toList_eq, List.isEmpty_eq_false_iff]
    intro e; have := lenB s; rw [e] at this; simp only [List.length_nil] at this; omega
  have h3 : ((s[0].toNat : Int) == 48) = false ∨ (((s[0].toNat : Int) == 48) = true ∧ (s.toList == [48]) = true) := by
    by_cases e : ((s[0].toNat : Int) == 48) = true
    · right
      refine ⟨e, ?_⟩
      rw [ByteArray.toList_eq]
      have e1 : s[0].toNat = 48 := by have := beq_iff_eq.1 e; omega
      have e2 : s[0] = 48 := UInt8.toNat_inj.1 e1
      have := h (by
        have hd : s.data.toList.head? = s.data.toList[0]? := by cases s.data.toList <;> rfl
        rw [hd, List.getElem?_eq_getElem (by rw [lenB]; exact hp)]
        exact congrArg some e2)
      simp [this]
    · left; simpa using e
  clear h
  rcases h3 with h3 | ⟨h3, h4⟩
  all_goals
    go_enter Tryz.func82, Tryz.ntmps82
    go_wp2
    go_loopw [4] (fun iv wr => ∃ k : Nat, k ≤ s.size ∧ iv = .int .i64 (k : Nat) ∧ Hid ((s.data.toList.take k).all isD = true) ∧ Hid (wr = w)) (fun iv _ => s.size - (intOf iv).toNat)
    case atStart => exact ⟨0, Nat.zero_le _, rfl, rfl, rfl⟩
    case round =>
      obtain ⟨k, hk, rfl, hall, hw⟩ := hrel
      by_cases hlt : k < s.size
      · by_cases hd : isD s[k] = true
        · have hd' := (isD_iff _).1 hd
          have HS : Hid ((s.data.toList.take (k + 1)).all isD = true) := by
            show _ = _; rw [take_snocB s k hlt, List.all_append, hall.out]; simpa using hd
          have hc1' : decide ((s[k].toNat : Int) < 48) = false := by rw [decide_eq_false_iff_not]; omega
          have hc2' : decide ((57 : Int) < (s[k].toNat : Int)) = false := by rw [decide_eq_false_iff_not]; omega
          clear hd hd'
          go_wp2
          exact ⟨⟨k + 1, by omega, by go_num, HS.out, hw.out⟩, by show _ < _; simp [intOf]; omega⟩
        · have hF : Hid (s.data.toList.all isD = false) := by
            show _ = _
            rw [List.all_eq_false]
            exact ⟨s[k], by rw [show s[k] = s.data.toList[k]'(by rw [lenB]; exact hlt) from rfl]; exact List.getElem_mem _, hd⟩
          have hd' : s[k].toNat < 48 ∨ (¬ s[k].toNat < 48 ∧ 57 < s[k].toNat) := by
            by_cases h1 : s[k].toNat < 48
            · exact .inl h1
            · right; refine ⟨h1, ?_⟩
              apply Classical.byContradiction; intro h9; exact hd ((isD_iff _).2 ⟨by omega, by omega⟩)
          clear hd
          rcases hd' with h1 | ⟨h1, h9⟩
          · have hc1' : decide ((s[k].toNat : Int) < 48) = true := by rw [decide_eq_true_eq]; omega
            clear h1
            go_wp2
            rw [HR.out, hF.out, if_neg (by decide)]
            exact ⟨rfl, by rw [hw.out]; exact Below.refl _ _⟩
          · have hc1' : decide ((s[k].toNat : Int) < 48) = false := by rw [decide_eq_false_iff_not]; omega
            have hc2' : decide ((57 : Int) < (s[k].toNat : Int)) = true := by rw [decide_eq_true_eq]; omega
            clear h1 h9
            go_wp2
            rw [HR.out, hF.out, if_neg (by decide)]
            exact ⟨rfl, by rw [hw.out]; exact Below.refl _ _⟩
      · obtain rfl : k = s.size := by omega
        have hA : Hid (s.data.toList.all isD = true) := by
          have := hall.out
          rw [← lenB, List.take_length] at this
          exact this
        clear hall
        go_wp2
        go_loopw [0, 5] (fun sv ov wy => ∃ (m k : Nat) (S : ByteArray) (O : Nat → Nat), sv = .string S ∧ S.size = m ∧ m ≤ 20000 ∧ k ≤ 20000 ∧ Hid (S.data.toList = s.data.toList.take m) ∧ Hid (Num9 w s.data.toList m k O ov wy)) (fun sv _ _ => match sv with | .string S => S.size | _ => 0)
        case atStart =>
          refine ⟨s.size, 0, s, fun _ => 0, rfl, rfl, hs, by omega, ?_, World.ownsRow_nil _ _ _ _, by rw [hw.out]; exact Below.refl _ _, fun i hi => by omega, by rw [lenB]; exact Nat.le_refl _, .inr (by rw [lenB]; omega), by omega, ?_⟩
          · show _ = _; rw [← lenB, List.take_length]
          · rw [← lenB, List.take_length, Nat.pow_zero, Nat.mul_one, fval_zero, Nat.add_zero]
        case round =>
          obtain ⟨m, j, S, O, rfl, hS, hm, hj, hSl, hI⟩ := hrel
          by_cases hm0 : 0 < m
          · obtain ⟨f, hf⟩ : ∃ f, f = m - 9 := ⟨_, rfl⟩
            have hmax : max (0 : Int) ((m : Int) - 9) = (f : Int) := by omega
            have hfm : f < m := by omega
            have hf9 : m ≤ f + 9 := by omega
            have HF := Lib.hid hf
            have HSA : Hid (S.data.toList.all isD = true) := by
              show _ = _
              have h1 := hA.out
              rw [hSl.out]
              rw [List.all_eq_true] at h1 ⊢
              exact fun x hx => h1 x (List.mem_of_mem_take hx)
            clear hf
            go_wp2
            clear hmax
            obtain ⟨wo, hwo⟩ : ∃ wo : World, wo = wr := ⟨_, rfl⟩
            go_loopw [7, 8] (fun dv iv wz => ∃ i D : Nat, i ≤ m ∧ iv = .int .i64 (i : Nat) ∧ dv = .int .u32 (D : Nat) ∧ f ≤ i ∧ Hid (Pc9 S.data.toList f i D) ∧ wz = wo) (fun _ iv _ => m - (intOf iv).toNat)
            case atStart => exact ⟨f, 0, by omega, rfl, rfl, Nat.le_refl _, ⟨by rw [List.drop_eq_nil_of_le (by rw [List.length_take]; omega)]; rfl, Nat.le_refl _, by rw [Nat.sub_self]; decide⟩, hwo.symm⟩
            case round =>
              obtain ⟨i, D, hi, rfl, rfl, hfi, hpc, rfl⟩ := hrel
              by_cases hlt2 : i < m
              · have hltS : i < S.size := by omega
                have hdd : isD S[i] = true := by
                  have := HSA.out
                  rw [List.all_eq_true] at this
                  exact this _ (by rw [show S[i] = S.data.toList[i]'(by rw [lenB]; exact hltS) from rfl]; exact List.getElem_mem _)
                have hst : Hid (Pc9 S.data.toList f (i + 1) (10 * D + (S[i].toNat - 48))) := hpc.out.step hltS hdd
                have hd' := (isD_iff _).1 hdd
                have hc1 : (48 : Int) ≤ (S[i].toNat : Int) := by omega
                have hc2 : (S[i].toNat : Int) ≤ 57 := by omega
                have hD8 : D < 100000000 := Nat.lt_of_lt_of_le hpc.out.lt (Nat.le_trans (Nat.pow_le_pow_right (by decide) (show i - f ≤ 8 by omega)) (by decide))
                clear hdd hd'
                go_wp2
                exact ⟨⟨i + 1, 10 * D + (S[i].toNat - 48), by omega, by go_num, congrArg (Value.int .u32) (by omega), by omega, hst.out, hwo.symm⟩, by show _ < _; simp [intOf]; omega⟩
              · obtain rfl : i = m := by omega
                have hj9 : Hid (j ≤ 1000000000) := by show _ ≤ _; omega
                have hdv : Hid (D = dval ((s.data.toList.take i).drop (i - 9))) := by
                  show _ = _
                  have h1 := hpc.out.val
                  rw [hSl.out, List.take_take, Nat.min_self, HF.out] at h1
                  exact h1
                have hm1 := Lib.hid hm0
                have hll : Hid (s.data.toList.length ≤ 20000) := by show _ ≤ _; rw [lenB]; exact hs
                go_wp2_with (at_builtin; refine wpList_append_dig rfl _ _ rfl w O j D _ _ hI.out.own ?z (by rfl) (by rfl) hj9.out hI.out.below ?_)
                case z => rfl
                intro v' w2 hown2 hb2
                have hst := Lib.hid (hI.out.step hm1.out hA.out hdv.out hown2 hb2)
                clear hown2 hb2
                go_wp2
                have hsz : (S.extract 0 f).size = f := by rw [ByteArray.size_extract]; omega
                have hcn := hst.out.cnt
                have hl2 := hll.out
                refine ⟨⟨f, j + 1, S.extract 0 f, putD O j D, rfl, hsz, by omega, by omega, ?_, by rw [HF.out]; exact hst.out⟩, ?_⟩
                · show _ = _
                  rw [extract_pre, hSl.out, List.take_take, show min f i = f from by omega]
                · show (S.extract 0 f).size < S.size
                  omega
          · obtain rfl : m = 0 := by omega
            have hsl := Lib.hid (own_sl hI.out.own)
            have hval : Hid (fval B9 O j = dval s.data.toList) := by
              show _ = _
              have h1 := hI.out.eq
              rw [List.take_zero, dval_nil, Nat.zero_mul, Nat.zero_add] at h1
              exact h1.symm
            go_wp2_with fail
            refine (rtrim_any (n := j) (D := O) hsl.out).mono ?_
            rintro e w' h
            obtain ⟨v, rfl, hv, rfl⟩ := h.num (B := B9) hI.out.dig
            rw [hval.out] at hv
            have HV := Lib.hid hv
            clear hv
            go_wp2
            rw [HR.out, if_pos hA.out]
            exact ⟨_, rfl, HV.out, hI.out.below⟩

theorem number9_any (w : World) (s : ByteArray) (hs : s.size ≤ 20000) :
    Calls Tryz.prog 82 #[.string s] w (RetNum9 (parseD s.data.toList) w) := by
  by_cases h0 : s.data.toList = []
  · rw [show parseD s.data.toList = none from by rw [parseD, if_neg (fun h => h.1 h0)]]
    refine (number_empty w s h0).mono ?_
    rintro e w' ⟨rfl, rfl⟩
    exact ⟨rfl, Below.refl _ _⟩
  · have hp : 0 < s.size := by
      rw [← lenB]; exact List.length_pos_iff.2 h0
    have hh : s.data.toList.head? = some s[0] := by
      have hd : s.data.toList.head? = s.data.toList[0]? := by cases s.data.toList <;> rfl
      rw [hd, List.getElem?_eq_getElem (by rw [lenB]; exact hp)]
      rfl
    by_cases h1 : s.data.toList.head? = some 48 → s.data.toList = [48]
    · refine (number_loop w s hp hs h1).mono ?_
      intro e w' h
      have e1 : parseD s.data.toList = if s.data.toList.all isD = true then some (dval s.data.toList) else none := by
        rw [parseD]
        by_cases h2 : s.data.toList.all isD = true
        · rw [if_pos ⟨h0, h1, h2⟩, if_pos h2]
        · rw [if_neg (fun h => h2 h.2.2), if_neg h2]
      rw [e1]; exact h
    · rw [show parseD s.data.toList = none from by rw [parseD, if_neg (fun h => h1 h.2.1)]]
      have h2 : s.data.toList.head? = some 48 ∧ s.data.toList ≠ [48] := by simpa using h1
      refine (number_zero w s hp (by rw [hh] at h2; exact Option.some.inj h2.1) h2.2).mono ?_
      rintro e w' ⟨rfl, rfl⟩
      exact ⟨rfl, Below.refl _ _⟩
end Go.Proofs.YtemhidlaaommaaaGreatDoor
