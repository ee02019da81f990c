/- The reference's values, contract: Print. -/
import Derived.Test.YtemhidlaaommaaaGreatDoorE1
import Derived.Test.YtemhidlaaommaaaGreatDoorRefV
namespace Go.Proofs.YtemhidlaaommaaaGreatDoor
open Go.RowKit

theorem rprint_bad (x : Va) (w : World) (hs : x.str.length ≤ 9223372036854775807) (h : rightV x = false) :
    Calls Tryz.prog 59 #[x.v] w (RetV (.tuple #[str [], .int .i64 2]) w) := by
  have C := fun w1 => rcheck_any x w1 hs
  simp only [chk_bad h] at C
  have C := Lib.hid C
  rename_i C'
  clear C' h hs
  go_enter Tryz.func59, Tryz.ntmps59
  go_wp2_with fail
  refine (C.out _).mono ?_
  rintro e w1 ⟨rfl, hb⟩
  obtain ⟨-, HB⟩ := BoxAt.past x hb
  clear C hb
  go_wp2
  go_ret2
  exact ⟨rfl, HB⟩

theorem rprint_0 (r : Int) (h1 : 1 ≤ r) (h2 : r ≤ 255) (w : World) :
    Calls Tryz.prog 59 #[(missV r).v] w (RetV (.tuple #[str (63 :: dec r.natAbs), .int .i64 0]) w) := by
  have C := fun w1 => rcheck_any (missV r) w1 (by simp)
  simp only [chk_good (right_miss h1 h2)] at C
  have C := Lib.hid C
  rename_i C'
  clear C'
  have C2 := Lib.hid (fun w1 => size9_any r w1 (by omega) (by omega))
  have SM : Sm r.natAbs := Sm.i64 (n := r) (by omega) (by omega)
  have C3 := Lib.hid (fun (w1 : World) (v : Value) (hv : IsN B9 w1 v r.natAbs) => decimal_any hv SM)
  have L1 : (dec r.natAbs).length ≤ 3 := dec3 (by omega)
  clear h1 h2 SM
  go_enter Tryz.func59, Tryz.ntmps59
  go_wp2_with fail
  refine (C.out _).mono ?_
  rintro e w1 ⟨rfl, hb⟩
  obtain ⟨⟨c1, c2, c3, c4⟩, HB⟩ := BoxAt.past (missV r) hb
  clear C hb
  go_wp2_with fail
  refine (C2.out _).mono ?_
  rintro e w2 ⟨v, rfl, hv, hb2⟩
  have HB2 := below_keep HB hb2
  obtain ⟨a1, n1, p1, hs1, -⟩ := hv.shape (by decide)
  subst hs1
  have C4 := Lib.hid (C3.out _ _ hv)
  clear C2 C3 hv
  go_wp2_with fail
  refine C4.out.mono ?_
  rintro e w3 ⟨rfl, hb3⟩
  have HB3 := below_keep HB2 hb3
  clear C4
  go_wp2
  go_ret2
  exact ⟨ret_str (by simp), HB3⟩

theorem rprint_1 (b : Bool) (w : World) :
    Calls Tryz.prog 59 #[(truthV b).v] w (RetV (.tuple #[str (printV (truthV b)), .int .i64 0]) w) := by
  have C := fun w1 => rcheck_any (truthV b) w1 (by simp)
  simp only [chk_good (right_bool b)] at C
  have C := Lib.hid C
  rename_i C'
  clear C'
  cases b
  · go_enter Tryz.func59, Tryz.ntmps59
    go_wp2_with fail
    refine (C.out _).mono ?_
    rintro e w1 ⟨rfl, hb⟩
    obtain ⟨⟨c1, c2, c3, c4⟩, HB⟩ := BoxAt.past ⟨1, 0, 0, []⟩ hb
    clear C hb
    go_wp2
    go_ret2
    exact ⟨rfl, HB⟩
  · go_enter Tryz.func59, Tryz.ntmps59
    go_wp2_with fail
    refine (C.out _).mono ?_
    rintro e w1 ⟨rfl, hb⟩
    obtain ⟨⟨c1, c2, c3, c4⟩, HB⟩ := BoxAt.past ⟨1, 1, 0, []⟩ hb
    clear C hb
    go_wp2
    go_ret2
    exact ⟨rfl, HB⟩

set_option maxHeartbeats 1600000 in
theorem rprint_2core (q : Rat) (N E : Int) (w : World) (C : ∀ w1, Calls Tryz.prog 60 #[(Va.mk 2 N E []).v] w1 (RetV (.int .i64 0) w1))
    (C2 : ∀ w1, Calls Tryz.prog 58 #[(Va.mk 2 N E []).v] w1 fun e w' => ∃ v, e = .returned (.tuple #[v, .bool true]) ∧ Q9 w' v q ∧ Below w1.heap.size w1 w')
    (C3 : ∀ w1 v, Q9 w1 v q → Calls Tryz.prog 71 #[v] w1 (RetV (str (ratS q)) w1)) :
    Calls Tryz.prog 59 #[(Va.mk 2 N E []).v] w (RetV (.tuple #[str (ratS q), .int .i64 0]) w) := by
  have C := Lib.hid C
  have C2 := Lib.hid C2
  have C3 := Lib.hid C3
  rename_i C' C2' C3'
  clear C' C2' C3'
  go_enter Tryz.func59, Tryz.ntmps59
  go_wp2_with fail
  refine (C.out _).mono ?_
  rintro e w1 ⟨rfl, hb⟩
  obtain ⟨⟨c1, c2, c3, c4⟩, HB⟩ := BoxAt.past ⟨2, N, E, []⟩ hb
  clear C hb
  have HB := Lib.hid HB
  rename_i HB'
  clear HB'
  go_wp2_with fail
  refine (C2.out _).mono ?_
  rintro e w2 ⟨v, rfl, ⟨vn, vd, rfl, hn, hd⟩, hb2⟩
  obtain ⟨a1, n1, p1, rfl, -⟩ := hn.shape (by decide)
  obtain ⟨a2, n2, p2, rfl, -⟩ := hd.shape (by decide)
  obtain ⟨b, hb1⟩ : ∃ b, b = qneg q := ⟨_, rfl⟩
  rw [← hb1]
  have C4 := Lib.hid (C3.out (w2.alloc (.cells #[.bool b, .slice a1 n1 p1, .slice a2 n2 p2] 28)) (.agg #[.bool b, .slice a1 n1 p1, .slice a2 n2 p2]) ⟨_, _, by rw [hb1], hn.later (below_alloc _ _), hd.later (below_alloc _ _)⟩)
  have hB2 := below_keep HB.out hb2
  have HB2 := Lib.hid (hB2.alloc hB2.size (.cells #[.bool b, .slice a1 n1 p1, .slice a2 n2 p2] 28))
  clear C2 C3 hn hd hb2 hb1 hB2
  go_wp2_with fail
  refine C4.out.mono ?_
  rintro e w3 ⟨rfl, hb3⟩
  have HB3 := Lib.hid (below_keep HB2.out hb3)
  clear C4 hb3
  go_wp2
  go_ret2
  exact ⟨rfl, HB3.out⟩

theorem rprint_2 (q : Rat) (hq : FitQ q) (w : World) :
    Calls Tryz.prog 59 #[(ratV q).v] w (RetV (.tuple #[str (ratS q), .int .i64 0]) w) :=
  rprint_2core q q.num q.den w (fun w1 => by have := rcheck_any (ratV q) w1 (by simp); rwa [chk_good (right_rat hq)] at this) (rnumber_good q hq) (fun w1 v hv => text9_any hv hq.bd (by omega))

theorem dbl_take {s : List UInt8} {k : Nat} (h : k < s.length) : dbl (s.take (k + 1)) = dbl (s.take k) ++ (if s[k] = 39 then [39, 39] else [s[k]]) := by
  have e : ∀ (a : List UInt8) (c : UInt8), dbl (a ++ [c]) = dbl a ++ (if c = 39 then [39, 39] else [c]) := by
    intro a c
    induction a with
    | nil => show dbl [c] = _; simp only [dbl]; split <;> rfl
    | cons b t ih =>
      rw [List.cons_append, dbl, dbl, ih]
      split <;> simp
  rw [List.take_succ_eq_append_getElem h, e]

theorem ext_one {S : ByteArray} {s : List UInt8} {k : Nat} (hS : S.data.toList = s) (h : k < s.length) : (S.extract k (k + 1)).data.toList = [s[k]] := by
  subst hS
  rw [ByteArray.data_extract, Array.toList_extract, List.extract_eq_take_drop, show k + 1 - k = 1 from by omega, List.take_one, List.head?_drop, List.getElem?_eq_getElem h]
  rfl
theorem get_str {S : ByteArray} {s : List UInt8} {k : Nat} (hS : S.data.toList = s) (h : k < s.length) (hi : k < S.size) : S[k] = s[k] := by
  subst hS; rfl

set_option maxHeartbeats 3200000 in
set_option maxRecDepth 100000 in
theorem rprint_3core (s : List UInt8) (S0 : ByteArray) (hS0 : S0.data.toList = s) (h1 : s.length ≤ 16) (w : World) (C : ∀ w1, Calls Tryz.prog 60 #[.agg #[.int .i64 3, .int .i64 0, .int .i64 0, .string S0]] w1 (RetV (.int .i64 0) w1)) :
    Calls Tryz.prog 59 #[.agg #[.int .i64 3, .int .i64 0, .int .i64 0, .string S0]] w (RetV (.tuple #[str (39 :: dbl s ++ [39]), .int .i64 0]) w) := by
  have C := Lib.hid C
  rename_i C'
  clear C'
  have hsz : S0.size = s.length := by rw [← hS0, lenB]
  have HP : Hid (∀ w1, Below (w.alloc (.cells #[.int .i64 3, .int .i64 0, .int .i64 0, .string S0] 45)).heap.size (w.alloc (.cells #[.int .i64 3, .int .i64 0, .int .i64 0, .string S0] 45)) w1 →
      (w1.cell? ⟨w.heap.size, 0, none⟩ = some (.int .i64 3) ∧ w1.cell? ⟨w.heap.size, 3, none⟩ = some (.string S0) ∧ Below w.heap.size w w1)) := fun w1 hb => by
    have e : S0 = ⟨s.toArray⟩ := bytes_eq (by rw [hS0])
    rw [e] at hb
    obtain ⟨⟨c1, c2, c3, c4⟩, HB⟩ := BoxAt.past (textV s) hb
    rw [e]
    exact ⟨c1, c4, HB⟩
  have HS0 := Lib.hid hS0
  have HZ := Lib.hid hsz
  have hz16 : S0.size ≤ 16 := by omega
  clear hS0 hsz
  go_enter Tryz.func59, Tryz.ntmps59
  go_wp2_with fail
  refine (C.out _).mono ?_
  rintro e w1 ⟨rfl, hb⟩
  obtain ⟨c1, c4, hB⟩ := HP.out _ hb
  have HB := Lib.hid hB
  clear C hb hB HP
  go_wp2
  go_loop [6, 7] (fun ov iv => ∃ (k : Nat) (S : ByteArray), k ≤ S0.size ∧ iv = .int .i64 (k : Nat) ∧ ov = .string S ∧ S.size ≤ 40 ∧ Hid (S.data.toList = 39 :: dbl (s.take k))) (fun _ iv => S0.size - (intOf iv).toNat)
  case atStart => exact ⟨0, ⟨#[39]⟩, Nat.zero_le _, rfl, rfl, by decide, by show _ = _; simp [dbl]⟩
  case round =>
    obtain ⟨k, S, hk, rfl, rfl, hS, hl⟩ := hrel
    by_cases hlt : k < S0.size
    · have hlt' : k < s.length := by rw [← HZ.out]; exact hlt
      have hd := dbl_take hlt'
      have he := ext_one HS0.out hlt'
      have hlen := dbl_len (s.take (k + 1))
      rw [List.length_take] at hlen
      by_cases e : s[k] = 39
      · have q1 : ∀ hi : k < S0.size, ((S0[k].toNat : Int) == 39) = true := fun hi => by rw [get_str HS0.out hlt', e]; rfl
        have HF : Hid ((S ++ ⟨#[39]⟩ ++ S0.extract k (k + 1)).data.toList = 39 :: dbl (s.take (k + 1))) := by
          show _ = _
          rw [ByteArray.data_append, ByteArray.data_append, Array.toList_append, Array.toList_append, he, hl.out, hd, if_pos e, e]
          simp
        have HL : Hid ((S ++ ⟨#[39]⟩ ++ S0.extract k (k + 1)).size ≤ 40) := by
          show _ ≤ _
          rw [← lenB, HF.out, List.length_cons]; omega
        clear hlt' hd he hlen e
        go_wp2
        exact ⟨⟨k + 1, _, by omega, rfl, rfl, HL.out, HF.out⟩, by show S0.size - (k + 1) < S0.size - k; omega⟩
      · have q1 : ∀ hi : k < S0.size, ((S0[k].toNat : Int) == 39) = false := fun hi => by
          rw [get_str HS0.out hlt', beq_eq_false_iff_ne]
          intro h
          exact e (UInt8.toNat_inj.1 (by show _ = 39; omega))
        have HF : Hid ((S ++ S0.extract k (k + 1)).data.toList = 39 :: dbl (s.take (k + 1))) := by
          show _ = _
          rw [ByteArray.data_append, Array.toList_append, he, hl.out, hd, if_neg e]
          simp
        have HL : Hid ((S ++ S0.extract k (k + 1)).size ≤ 40) := by
          show _ ≤ _
          rw [← lenB, HF.out, List.length_cons]; omega
        clear hlt' hd he hlen e
        go_wp2
        exact ⟨⟨k + 1, _, by omega, rfl, rfl, HL.out, HF.out⟩, by show S0.size - (k + 1) < S0.size - k; omega⟩
    · obtain rfl : k = S0.size := by omega
      go_wp2
      go_ret2
      exact ⟨ret_str (by simp [hl.out, HZ.out]), HB.out⟩
theorem rprint_3 (s : List UInt8) (h1 : s.length ≤ 16) (h2 : s.all okB = true) (w : World) :
    Calls Tryz.prog 59 #[(textV s).v] w (RetV (.tuple #[str (39 :: dbl s ++ [39]), .int .i64 0]) w) :=
  rprint_3core s ⟨s.toArray⟩ (by simp) h1 w (fun w1 => by have := rcheck_any (textV s) w1 (by show s.length ≤ _; omega); rwa [chk_good (right_text h1 h2)] at this)

theorem rprint_any (x : Va) (w : World) (hs : x.str.length ≤ 9223372036854775807) :
    Calls Tryz.prog 59 #[x.v] w (RetV (printE x) w) := by
  unfold printE
  by_cases hx : rightV x = true
  · simp only [if_pos hx]
    rcases right_cases hx with ⟨r, h1, h2, rfl⟩ | ⟨b, rfl⟩ | ⟨q, hq, rfl⟩ | ⟨s, h1, h2, rfl⟩
    · exact rprint_0 r h1 h2 w
    · exact rprint_1 b w
    · rw [print_rat]; exact rprint_2 q hq w
    · exact rprint_3 s h1 h2 w
  · simp only [if_neg hx]
    exact rprint_bad x w hs (by simpa using hx)
end Go.Proofs.YtemhidlaaommaaaGreatDoor
