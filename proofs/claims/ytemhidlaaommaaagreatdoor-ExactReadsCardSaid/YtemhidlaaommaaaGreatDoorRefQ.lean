/- The reference's rational numbers, contract: Parse. -/
import Derived.Deep.QuietTactic
import Derived.Test.YtemhidlaaommaaaGreatDoorE1
import Derived.Test.YtemhidlaaommaaaGreatDoorG2
import Derived.Test.YtemhidlaaommaaaGreatDoorRefP
import Derived.Test.YtemhidlaaommaaaGreatDoorT2
namespace Go.Proofs.YtemhidlaaommaaaGreatDoor
open Go.RowKit

/-- what a string denotes, as the reference reckons it -/
theorem parse9_spec (l : List UInt8) : parseQ l = (match parseD (prC l).1, parseD (prD l) with
    | some A, some B => if B = 0 then none else if ratS (mkRat (sgn (prN l) A) B) = l then some (mkRat (sgn (prN l) A) B) else none
    | _, _ => none) := by
  cases h : parseQ l with
  | some q =>
    obtain rfl := (parseQ_iff l q).1 h
    obtain ⟨h1, h2, h3⟩ := ratS_parts q
    rw [h1, h2, h3, parseD_dec, parseD_dec]
    simp only
    rw [if_neg q.den_nz, q_self, if_pos rfl]
  | none =>
    symm
    cases hA : parseD (prC l).1 with
    | none => rfl
    | some A =>
      cases hB : parseD (prD l) with
      | none => rfl
      | some B =>
        simp only
        split
        · rfl
        · split
          · rename_i h2
            have := (parseQ_iff l _).2 h2.symm
            rw [h] at this; cases this
          · rfl
theorem parseD_lt {l : List UInt8} {X K : Nat} (h : parseD l = some X) (hl : l.length ≤ K) : X < 2 ^ (4 * K) := by
  unfold parseD at h
  split at h
  · rename_i hc
    rw [← Option.some.inj h]
    refine Nat.lt_of_lt_of_le (dval_lt _ hc.2.2) ?_
    have h1 : (10 : Nat) ^ l.length ≤ 10 ^ K := Nat.pow_le_pow_right (by decide) hl
    have h2 : (10 : Nat) ^ K ≤ (2 ^ 4) ^ K := Nat.pow_le_pow_left (by decide) _
    rw [← Nat.pow_mul] at h2
    exact Nat.le_trans h1 h2
  · exact absurd h (by simp)
def RetP9 (o : Option Rat) (w : World) (e : Ending) (w' : World) : Prop :=
  match o with
  | some q => ∃ v, e = .returned (.tuple #[v, .int .i64 0]) ∧ Q9 w' v q ∧ Below w.heap.size w w'
  | none => e = .returned (.tuple #[.agg #[.bool false, .slice none 0 0, .slice none 0 0], .int .i64 7]) ∧ Below w.heap.size w w'
theorem resP (w : World) : ∃ P : World → Prop, P (w.alloc (.cells #[.bool false, .slice none 0 0, .slice none 0 0] 28)) ∧ Hid (∀ w1 w2, P w1 → Below w1.heap.size w1 w2 → P w2) ∧ Hid (∀ w1, P w1 → Res9 w1 w.heap.size ∧ Below w.heap.size w w1) :=
  ⟨fun w1 => Res9 w1 w.heap.size ∧ Below w.heap.size w w1, ⟨Res9.made w _, below_alloc _ _⟩, fun _ _ h h' => ⟨h.1.later h' (World.block_lt_of_cell? _ _ h.1.c0), below_keep h.2 h'⟩, fun _ h => h⟩
theorem prC_len1 (l : List UInt8) : (prC l).1.length ≤ l.length ∧ (prD l).length ≤ l.length + 1 := by
  have := prC_len l
  refine ⟨this.1, ?_⟩
  unfold prD; split
  · omega
  · simp

theorem parse9_long (s : ByteArray) (w : World) (h : 10000 < s.size) :
    Calls Tryz.prog 23 #[.string s] w fun e w' => e = .returned (.tuple #[.agg #[.bool false, .slice none 0 0, .slice none 0 0], .int .i64 8]) ∧ Below w.heap.size w w' := by
  have hd : decide ((10000 : Int) < (s.size : Int)) = true := by rw [decide_eq_true_eq]; omega
  have HR := Lib.hid (Res9.made w 28)
  obtain ⟨r0, r1, r2, f0, f1, f2⟩ := HR.out
  have HB := Lib.hid (below_alloc w (.cells #[.bool false, .slice none 0 0, .slice none 0 0] 28))
  clear h
  go_enter Tryz.func23, Tryz.ntmps23
  go_wp2
  refine bodyPost_ret (by simp [results, Tryz.results23, go_sem, r0, r1, r2]; try rfl) rfl ?_
  exact ⟨rfl, HB.out⟩

theorem prD_len {l : List UInt8} (h : l.length ≤ 10000) : (prD l).length ≤ 10000 := by
  have := prC_len l
  unfold prD; split
  · omega
  · decide
theorem extract_post (s : ByteArray) (n : Nat) : (s.extract n s.size).data.toList = s.data.toList.drop n := by
  rw [ByteArray.data_extract, Array.toList_extract]
  simp only [List.extract]
  rw [List.take_of_length_le]
  rw [List.length_drop, lenB]; exact Nat.le_refl _
theorem cut_at {s : ByteArray} {i : Nat} (hi : i < s.size) (h : s[i] = 47) (hn : (47 : UInt8) ∉ s.data.toList.take i) : Lib.cut s.data.toList [47] = (s.data.toList.take i, s.data.toList.drop (i + 1), true) := by
  have e : s.data.toList = s.data.toList.take i ++ 47 :: s.data.toList.drop (i + 1) := by
    conv => lhs; rw [← List.take_append_drop i s.data.toList]
    rw [List.drop_eq_getElem_cons (by rw [lenB]; exact hi)]
    congr 2
  conv => lhs; rw [e]
  exact cut_some hn

set_option maxHeartbeats 16000000 in
set_option maxRecDepth 100000 in
theorem parse9_A (s : ByteArray) (w : World) (hs : s.size ≤ 10000) (h0 : s.data.toList = []) :
    Calls Tryz.prog 23 #[.string s] w (RetP9 (parseQ s.data.toList) w) := by
  have hd : decide ((10000 : Int) < (s.size : Int)) = false := by rw [decide_eq_false_iff_not]; omega
  obtain ⟨l, hl⟩ : ∃ l, l = s.data.toList := ⟨_, rfl⟩
  have hll : l.length ≤ 10000 := by rw [hl, lenB]; exact hs
  obtain ⟨R, hR⟩ : ∃ R : Ending → World → Prop, R = RetP9 (parseQ l) w := ⟨_, rfl⟩
  rw [← hl, ← hR]
  have HR := Lib.hid hR
  have HSL : Hid (s.data.toList = l) := hl.symm
  have hlen := prC_len1 l
  have hrl : Hid (s.data.toList = Lib.trimPrefix l [45]) := by show _ = _; rw [hl, h0]; rfl
  have hneg : Hid (prN l = false) := by show _ = _; rw [hl, h0]; rfl
  have hsz : s.size = 0 := by rw [← lenB, h0]; rfl
  have hrsz : s.size ≤ 10000 := hs
  clear h0
  have hsp := parse9_spec l
  rw [hneg.out] at hsp
  obtain ⟨oA, hA⟩ : ∃ oA, oA = parseD (prC l).1 := ⟨_, rfl⟩
  obtain ⟨oB, hB⟩ : ∃ oB, oB = parseD (prD l) := ⟨_, rfl⟩
  rw [← hA, ← hB] at hsp
  have HS : Hid ((oA = none → parseQ l = none) ∧ (oB = none → parseQ l = none) ∧ (∀ A B, oA = some A → oB = some B → B = 0 → parseQ l = none) ∧ (∀ A B, oA = some A → oB = some B → B ≠ 0 → (ratS (mkRat (sgn false A) B) = l → parseQ l = some (mkRat (sgn false A) B)) ∧ (ratS (mkRat (sgn false A) B) ≠ l → parseQ l = none))) := by
    refine ⟨fun h => ?_, fun h => ?_, fun A B h1 h2 h3 => ?_, fun A B h1 h2 h3 => ⟨fun h4 => ?_, fun h4 => ?_⟩⟩
    · rw [hsp, h]
    · rw [hsp, h]; cases oA <;> simp
    · rw [hsp, h1, h2]; simp only; rw [if_pos h3]
    · rw [hsp, h1, h2]; simp only; rw [if_neg h3, if_pos h4]
    · rw [hsp, h1, h2]; simp only; rw [if_neg h3, if_neg h4]
  obtain ⟨k, hk, HL⟩ : ∃ k, Hid (k ≤ 900000) ∧ Hid ((∀ A, oA = some A → A < 2 ^ k) ∧ (∀ B, oB = some B → B < 2 ^ k)) := by
    obtain ⟨K, hK⟩ : ∃ K : Nat, K = 10000 := ⟨_, rfl⟩
    exact ⟨4 * K, by show _ ≤ _; omega, fun A h => parseD_lt (h ▸ hA).symm (by omega), fun B h => parseD_lt (h ▸ hB).symm (by have := prD_len hll; omega)⟩
  have NA : Hid (∀ w1 (S : ByteArray), S.data.toList = (prC l).1 → Calls Tryz.prog 82 #[.string S] w1 (RetNum9 oA w1)) := fun w1 S h => by
    rw [hA, ← h]; exact number9_any w1 S (by rw [← lenB, h]; omega)
  have NB : Hid (∀ w1 (S : ByteArray), S.data.toList = prD l → Calls Tryz.prog 82 #[.string S] w1 (RetNum9 oB w1)) := fun w1 S h => by
    rw [hB, ← h]; exact number9_any w1 S (by rw [← lenB, h]; omega)
  obtain ⟨P, p0, PK, PG⟩ := resP w
  have P0 := Lib.hid p0
  have hrs : s.size ≤ 10000 := hrsz
  clear hl hll hR hlen hsp hA hB p0 hrsz
  go_enter Tryz.func23, Tryz.ntmps23
  go_wp2
  go_loopw [6, 7, 8] (fun nv dv iv wr => ∃ i : Nat, i ≤ s.size ∧ iv = .int .i64 (i : Nat) ∧ nv = .string s ∧ dv = .string ⟨#[49]⟩ ∧ Hid ((47 : UInt8) ∉ s.data.toList.take i) ∧ Hid (P wr)) (fun _ _ iv _ => s.size - (intOf iv).toNat)
  case atStart => exact ⟨0, Nat.zero_le _, rfl, rfl, rfl, by show ¬ _; simp, P0.out⟩
  case round =>
    obtain ⟨i, hi, rfl, rfl, rfl, hno, hp⟩ := hrel
    by_cases hlt : i < s.size
    · exfalso; omega
    · obtain rfl : i = s.size := by omega
      have hcut : Hid (Lib.cut s.data.toList [47] = (s.data.toList, [], false)) := by
        have h1 := hno.out
        rw [← lenB, List.take_length] at h1
        exact cut_none h1
      have N1 := Lib.hid (fun w1 => NA.out w1 s (by rw [prC, ← hrl.out, hcut.out]))
      have N2 := Lib.hid (fun w1 => NB.out w1 ⟨#[49]⟩ (by rw [prD, prC, ← hrl.out, hcut.out]; rfl))
      have PC := hp
      clear hno hcut
      go_wp2_with fail
      refine (N1.out _).mono ?_
      cases oA with
      | none =>
        rintro e w1 ⟨rfl, hb1⟩
        have P1 := Lib.hid (PK.out _ _ PC.out hb1)
        have HPN := Lib.hid (HS.out.1 rfl)
        clear hb1
        go_wp2_with fail
        refine (N2.out _).mono ?_
        cases oB with
        | none =>
          rintro e w2 ⟨rfl, hb2⟩
          have P2 := Lib.hid (PK.out _ _ P1.out hb2)
          clear hb2
          have HW := Lib.hid (PG.out _ P2.out)
          obtain ⟨r0, r1, r2, f0, f1, f2⟩ := HW.out.1
          have HBW := Lib.hid HW.out.2
          go_wp2
          refine bodyPost_ret (by simp [results, Tryz.results23, go_sem, r0, r1, r2]; try rfl) rfl ?_
          rw [HR.out, HPN.out]
          first | exact ⟨rfl, HBW.out⟩ | exact ⟨rfl, below_set3 HBW.out⟩
        | some B =>
          rintro e w2 ⟨v2, rfl, hv2, hb2⟩
          have P2 := Lib.hid (PK.out _ _ P1.out hb2)
          obtain ⟨a4, n4, c4, rfl, -⟩ := hv2.shape (by decide)
          clear hb2 hv2
          have HW := Lib.hid (PG.out _ P2.out)
          obtain ⟨r0, r1, r2, f0, f1, f2⟩ := HW.out.1
          have HBW := Lib.hid HW.out.2
          go_wp2
          refine bodyPost_ret (by simp [results, Tryz.results23, go_sem, r0, r1, r2]; try rfl) rfl ?_
          rw [HR.out, HPN.out]
          first | exact ⟨rfl, HBW.out⟩ | exact ⟨rfl, below_set3 HBW.out⟩
      | some A =>
        rintro e w1 ⟨v1, rfl, hv1, hb1⟩
        have P1 := Lib.hid (PK.out _ _ PC.out hb1)
        have V1 := Lib.hid hv1
        obtain ⟨a3, n3, c3, rfl, -⟩ := hv1.shape (by decide)
        clear hb1 hv1
        go_wp2_with fail
        refine (N2.out _).mono ?_
        cases oB with
        | none =>
          rintro e w2 ⟨rfl, hb2⟩
          have P2 := Lib.hid (PK.out _ _ P1.out hb2)
          have HPN := Lib.hid (HS.out.2.1 rfl)
          clear hb2
          have HW := Lib.hid (PG.out _ P2.out)
          obtain ⟨r0, r1, r2, f0, f1, f2⟩ := HW.out.1
          have HBW := Lib.hid HW.out.2
          go_wp2
          refine bodyPost_ret (by simp [results, Tryz.results23, go_sem, r0, r1, r2]; try rfl) rfl ?_
          rw [HR.out, HPN.out]
          first | exact ⟨rfl, HBW.out⟩ | exact ⟨rfl, below_set3 HBW.out⟩
        | some B =>
          rintro e w2 ⟨v2, rfl, hv2, hb2⟩
          have P2 := Lib.hid (PK.out _ _ P1.out hb2)
          have V1 := Lib.hid (V1.out.later hb2)
          have V2 := Lib.hid hv2
          obtain ⟨a4, n4, c4, rfl, hz4⟩ := hv2.shape (by decide)
          clear hb2 hv2
          by_cases h4 : n4 = 0
          · subst h4
            have HPN := Lib.hid (HS.out.2.2.1 A B rfl rfl (hz4.1 rfl))
            clear hz4
            have HW := Lib.hid (PG.out _ P2.out)
            obtain ⟨r0, r1, r2, f0, f1, f2⟩ := HW.out.1
            have HBW := Lib.hid HW.out.2
            go_wp2
            refine bodyPost_ret (by simp [results, Tryz.results23, go_sem, r0, r1, r2]; try rfl) rfl ?_
            rw [HR.out, HPN.out]
            first | exact ⟨rfl, HBW.out⟩ | exact ⟨rfl, below_set3 HBW.out⟩
          · have hn4 : ((n4 : Int) == 0) = false := by rw [beq_eq_false_iff_ne]; omega
            have HB0 : Hid (B ≠ 0) := fun e => h4 (hz4.2 e)
            have HQS := Lib.hid (HS.out.2.2.2 A B rfl rfl HB0.out)
            have HLA := Lib.hid (HL.out.1 A rfl)
            have HLB := Lib.hid (HL.out.2 B rfl)
            obtain ⟨q, hq⟩ : ∃ q, q = mkRat (sgn false A) B := ⟨_, rfl⟩
            have CR : Hid (∀ w1, IsN B9 w1 (.slice a3 n3 c3) A → IsN B9 w1 (.slice a4 n4 c4) B → Calls Tryz.prog 66 #[.bool false, .slice a3 n3 c3, .slice a4 n4 c4] w1 (RetQ9 q w1)) := fun w1 h1 h2 => hq ▸ red9_any (k := k) h1 h2 HLA.out HLB.out (Nat.le_trans hk.out (by decide)) HB0.out
            have BD : Hid (Bd k q) := hq ▸ Bd.made false HLA.out HLB.out HB0.out
            rw [← hq] at HQS
            clear hz4 h4 hq
            go_wp2_with fail
            refine (CR.out _ V1.out V2.out).mono ?_
            rintro e w3 ⟨v3, rfl, ⟨vn, vd, rfl, hn, hd⟩, hb3⟩
            have P3 := Lib.hid (PK.out _ _ P2.out hb3)
            obtain ⟨a5, n5, c5, rfl, -⟩ := hn.shape (by decide)
            obtain ⟨a6, n6, c6, rfl, -⟩ := hd.shape (by decide)
            obtain ⟨c, hc⟩ : ∃ c, c = qneg q := ⟨_, rfl⟩
            rw [← hc]
            obtain ⟨PB, p0, KK, -, GG⟩ := boxP 28 hc hn hd
            have PB0 := Lib.hid p0
            have P4 := Lib.hid (PK.out _ _ P3.out (below_alloc w3 (.cells #[.bool c, .slice a5 n5 c5, .slice a6 n6 c6] 28)))
            obtain ⟨⟨k0, k1, k2, -, -⟩, -⟩ := GG.out _ p0
            have CT := Lib.hid (text9_any (v := .agg #[.bool c, .slice a5 n5 c5, .slice a6 n6 c6]) ⟨_, _, by rw [hc], (GG.out _ p0).1.isNum, (GG.out _ p0).1.isDen⟩ BD.out (Nat.le_trans hk.out (by decide)))
            obtain ⟨T, hT⟩ : ∃ T : ByteArray, T = ⟨(ratS q).toArray⟩ := ⟨_, rfl⟩
            rw [show str (ratS q) = .string T from by rw [hT]] at CT
            have HC := Lib.hid hc
            by_cases hrl : ratS q = l
            · have hts : (T.toList == s.toList) = true := by
                rw [ByteArray.toList_eq, ByteArray.toList_eq, HSL.out, hT, beq_iff_eq]; simpa using hrl
              have HPS := Lib.hid (HQS.out.1 hrl)
              clear hrl hT hn hd hb3 p0 hc
              go_wp2_with fail
              refine CT.out.mono ?_
              rintro e w5 ⟨rfl, hb5⟩
              have PB5 := Lib.hid (KK.out _ _ PB0.out hb5)
              have P5 := Lib.hid (PK.out _ _ P4.out hb5)
              clear hb5 k0 k1 k2
              obtain ⟨⟨k0, k1, k2, hn5, hd5⟩, -⟩ := GG.out _ PB5.out
              have HN5 := Lib.hid hn5
              have HD5 := Lib.hid hd5
              have HW := Lib.hid (PG.out _ P5.out)
              obtain ⟨r0, r1, r2, f0, f1, f2⟩ := HW.out.1
              clear hn5 hd5
              go_wp2
              refine bodyPost_ret (by simp [results, Tryz.results23, go_sem, r0, r1, r2]; try rfl) rfl ?_
              rw [HR.out, HPS.out]
              exact ⟨_, rfl, ⟨_, _, by rw [HC.out], HW.out.1.set3 HN5.out _ _ _, HW.out.1.set3 HD5.out _ _ _⟩, below_set3 HW.out.2⟩
            · have hts : (T.toList == s.toList) = false := by
                rw [ByteArray.toList_eq, ByteArray.toList_eq, HSL.out, hT, beq_eq_false_iff_ne]; simpa using hrl
              have HPN := Lib.hid (HQS.out.2 hrl)
              clear hrl hT hn hd hb3 p0 hc
              go_wp2_with fail
              refine CT.out.mono ?_
              rintro e w5 ⟨rfl, hb5⟩
              have P5 := Lib.hid (PK.out _ _ P4.out hb5)
              clear hb5 k0 k1 k2
              have HW := Lib.hid (PG.out _ P5.out)
              obtain ⟨r0, r1, r2, f0, f1, f2⟩ := HW.out.1
              have HBW := Lib.hid HW.out.2
              go_wp2
              refine bodyPost_ret (by simp [results, Tryz.results23, go_sem, r0, r1, r2]; try rfl) rfl ?_
              rw [HR.out, HPN.out]
              first | exact ⟨rfl, HBW.out⟩ | exact ⟨rfl, below_set3 HBW.out⟩

set_option maxHeartbeats 16000000 in
set_option maxRecDepth 100000 in
theorem parse9_B (s : ByteArray) (w : World) (hs : s.size ≤ 10000) (hp : 0 < s.size) (h0 : s[0] ≠ 45) :
    Calls Tryz.prog 23 #[.string s] w (RetP9 (parseQ s.data.toList) w) := by
  have hd : decide ((10000 : Int) < (s.size : Int)) = false := by rw [decide_eq_false_iff_not]; omega
  obtain ⟨l, hl⟩ : ∃ l, l = s.data.toList := ⟨_, rfl⟩
  have hll : l.length ≤ 10000 := by rw [hl, lenB]; exact hs
  obtain ⟨R, hR⟩ : ∃ R : Ending → World → Prop, R = RetP9 (parseQ l) w := ⟨_, rfl⟩
  rw [← hl, ← hR]
  have HR := Lib.hid hR
  have HSL : Hid (s.data.toList = l) := hl.symm
  have hlen := prC_len1 l
  have hh : s.data.toList.head? = some s[0] := by
    have hd : s.data.toList.head? = s.data.toList[0]? := by cases s.data.toList <;> rfl
    rw [hd, List.getElem?_eq_getElem (by rw [lenB]; exact hp)]
    rfl
  have htr := trim45_neg (a := l) (by rw [hl, hh]; intro e; exact h0 (Option.some.inj e))
  have hrl : Hid (s.data.toList = Lib.trimPrefix l [45]) := by show _ = _; rw [htr.1, hl]
  have hneg : Hid (prN l = false) := htr.2
  have hc0 : ((s[0].toNat : Int) == 45) = false := by rw [beq_eq_false_iff_ne]; intro e; exact h0 (UInt8.toNat_inj.1 (by rw [show (45 : UInt8).toNat = 45 from rfl]; omega))
  have hrsz : s.size ≤ 10000 := hs
  clear h0 hh htr
  have hsp := parse9_spec l
  rw [hneg.out] at hsp
  obtain ⟨oA, hA⟩ : ∃ oA, oA = parseD (prC l).1 := ⟨_, rfl⟩
  obtain ⟨oB, hB⟩ : ∃ oB, oB = parseD (prD l) := ⟨_, rfl⟩
  rw [← hA, ← hB] at hsp
  have HS : Hid ((oA = none → parseQ l = none) ∧ (oB = none → parseQ l = none) ∧ (∀ A B, oA = some A → oB = some B → B = 0 → parseQ l = none) ∧ (∀ A B, oA = some A → oB = some B → B ≠ 0 → (ratS (mkRat (sgn false A) B) = l → parseQ l = some (mkRat (sgn false A) B)) ∧ (ratS (mkRat (sgn false A) B) ≠ l → parseQ l = none))) := by
    refine ⟨fun h => ?_, fun h => ?_, fun A B h1 h2 h3 => ?_, fun A B h1 h2 h3 => ⟨fun h4 => ?_, fun h4 => ?_⟩⟩
    · rw [hsp, h]
    · rw [hsp, h]; cases oA <;> simp
    · rw [hsp, h1, h2]; simp only; rw [if_pos h3]
    · rw [hsp, h1, h2]; simp only; rw [if_neg h3, if_pos h4]
    · rw [hsp, h1, h2]; simp only; rw [if_neg h3, if_neg h4]
  obtain ⟨k, hk, HL⟩ : ∃ k, Hid (k ≤ 900000) ∧ Hid ((∀ A, oA = some A → A < 2 ^ k) ∧ (∀ B, oB = some B → B < 2 ^ k)) := by
    obtain ⟨K, hK⟩ : ∃ K : Nat, K = 10000 := ⟨_, rfl⟩
    exact ⟨4 * K, by show _ ≤ _; omega, fun A h => parseD_lt (h ▸ hA).symm (by omega), fun B h => parseD_lt (h ▸ hB).symm (by have := prD_len hll; omega)⟩
  have NA : Hid (∀ w1 (S : ByteArray), S.data.toList = (prC l).1 → Calls Tryz.prog 82 #[.string S] w1 (RetNum9 oA w1)) := fun w1 S h => by
    rw [hA, ← h]; exact number9_any w1 S (by rw [← lenB, h]; omega)
  have NB : Hid (∀ w1 (S : ByteArray), S.data.toList = prD l → Calls Tryz.prog 82 #[.string S] w1 (RetNum9 oB w1)) := fun w1 S h => by
    rw [hB, ← h]; exact number9_any w1 S (by rw [← lenB, h]; omega)
  obtain ⟨P, p0, PK, PG⟩ := resP w
  have P0 := Lib.hid p0
  have hrs : s.size ≤ 10000 := hrsz
  clear hl hll hR hlen hsp hA hB p0 hrsz
  go_enter Tryz.func23, Tryz.ntmps23
  go_wp2
  go_loopw [6, 7, 8] (fun nv dv iv wr => ∃ i : Nat, i ≤ s.size ∧ iv = .int .i64 (i : Nat) ∧ nv = .string s ∧ dv = .string ⟨#[49]⟩ ∧ Hid ((47 : UInt8) ∉ s.data.toList.take i) ∧ Hid (P wr)) (fun _ _ iv _ => s.size - (intOf iv).toNat)
  case atStart => exact ⟨0, Nat.zero_le _, rfl, rfl, rfl, by show ¬ _; simp, P0.out⟩
  case round =>
    obtain ⟨i, hi, rfl, rfl, rfl, hno, hp⟩ := hrel
    by_cases hlt : i < s.size
    · by_cases h47 : s[i] = 47
      · have hc : ((s[i].toNat : Int) == 47) = true := by rw [h47]; rfl
        have hcut := Lib.hid (cut_at hlt h47 hno.out)
        have N1 := Lib.hid (fun w1 => NA.out w1 (s.extract 0 i) (by rw [extract_pre, prC, ← hrl.out, hcut.out]))
        have N2 := Lib.hid (fun w1 => NB.out w1 (s.extract (i + 1) s.size) (by rw [extract_post, prD, prC, ← hrl.out, hcut.out]; rfl))
        have PC := Lib.hid (PK.out _ _ hp.out (below_drewN' _ 1))
        have b1 : (0 : Int) ≤ (i : Int) := by omega
        have b2 : (i : Int) ≤ (s.size : Int) := by omega
        have b3 : (0 : Int) ≤ (i : Int) + 1 := by omega
        have b4 : (i : Int) + 1 ≤ (s.size : Int) := by omega
        clear h47 hno hcut
        go_wp2
        go_quiet (fail)
        replace PC := Lib.hid (PK.out _ _ hp.out (below_drewN' _ nq))
        go_wp2_with fail
        refine (N1.out _).mono ?_
        cases oA with
        | none =>
          rintro e w1 ⟨rfl, hb1⟩
          have P1 := Lib.hid (PK.out _ _ PC.out hb1)
          have HPN := Lib.hid (HS.out.1 rfl)
          clear hb1
          go_wp2_with fail
          refine (N2.out _).mono ?_
          cases oB with
          | none =>
            rintro e w2 ⟨rfl, hb2⟩
            have P2 := Lib.hid (PK.out _ _ P1.out hb2)
            clear hb2
            have HW := Lib.hid (PG.out _ P2.out)
            obtain ⟨r0, r1, r2, f0, f1, f2⟩ := HW.out.1
            have HBW := Lib.hid HW.out.2
            go_wp2
            refine bodyPost_ret (by simp [results, Tryz.results23, go_sem, r0, r1, r2]; try rfl) rfl ?_
            rw [HR.out, HPN.out]
            first | exact ⟨rfl, HBW.out⟩ | exact ⟨rfl, below_set3 HBW.out⟩
          | some B =>
            rintro e w2 ⟨v2, rfl, hv2, hb2⟩
            have P2 := Lib.hid (PK.out _ _ P1.out hb2)
            obtain ⟨a4, n4, c4, rfl, -⟩ := hv2.shape (by decide)
            clear hb2 hv2
            have HW := Lib.hid (PG.out _ P2.out)
            obtain ⟨r0, r1, r2, f0, f1, f2⟩ := HW.out.1
            have HBW := Lib.hid HW.out.2
            go_wp2
            refine bodyPost_ret (by simp [results, Tryz.results23, go_sem, r0, r1, r2]; try rfl) rfl ?_
            rw [HR.out, HPN.out]
            first | exact ⟨rfl, HBW.out⟩ | exact ⟨rfl, below_set3 HBW.out⟩
        | some A =>
          rintro e w1 ⟨v1, rfl, hv1, hb1⟩
          have P1 := Lib.hid (PK.out _ _ PC.out hb1)
          have V1 := Lib.hid hv1
          obtain ⟨a3, n3, c3, rfl, -⟩ := hv1.shape (by decide)
          clear hb1 hv1
          go_wp2_with fail
          refine (N2.out _).mono ?_
          cases oB with
          | none =>
            rintro e w2 ⟨rfl, hb2⟩
            have P2 := Lib.hid (PK.out _ _ P1.out hb2)
            have HPN := Lib.hid (HS.out.2.1 rfl)
            clear hb2
            have HW := Lib.hid (PG.out _ P2.out)
            obtain ⟨r0, r1, r2, f0, f1, f2⟩ := HW.out.1
            have HBW := Lib.hid HW.out.2
            go_wp2
            refine bodyPost_ret (by simp [results, Tryz.results23, go_sem, r0, r1, r2]; try rfl) rfl ?_
            rw [HR.out, HPN.out]
            first | exact ⟨rfl, HBW.out⟩ | exact ⟨rfl, below_set3 HBW.out⟩
          | some B =>
            rintro e w2 ⟨v2, rfl, hv2, hb2⟩
            have P2 := Lib.hid (PK.out _ _ P1.out hb2)
            have V1 := Lib.hid (V1.out.later hb2)
            have V2 := Lib.hid hv2
            obtain ⟨a4, n4, c4, rfl, hz4⟩ := hv2.shape (by decide)
            clear hb2 hv2
            by_cases h4 : n4 = 0
            · subst h4
              have HPN := Lib.hid (HS.out.2.2.1 A B rfl rfl (hz4.1 rfl))
              clear hz4
              have HW := Lib.hid (PG.out _ P2.out)
              obtain ⟨r0, r1, r2, f0, f1, f2⟩ := HW.out.1
              have HBW := Lib.hid HW.out.2
              go_wp2
              refine bodyPost_ret (by simp [results, Tryz.results23, go_sem, r0, r1, r2]; try rfl) rfl ?_
              rw [HR.out, HPN.out]
              first | exact ⟨rfl, HBW.out⟩ | exact ⟨rfl, below_set3 HBW.out⟩
            · have hn4 : ((n4 : Int) == 0) = false := by rw [beq_eq_false_iff_ne]; omega
              have HB0 : Hid (B ≠ 0) := fun e => h4 (hz4.2 e)
              have HQS := Lib.hid (HS.out.2.2.2 A B rfl rfl HB0.out)
              have HLA := Lib.hid (HL.out.1 A rfl)
              have HLB := Lib.hid (HL.out.2 B rfl)
              obtain ⟨q, hq⟩ : ∃ q, q = mkRat (sgn false A) B := ⟨_, rfl⟩
              have CR : Hid (∀ w1, IsN B9 w1 (.slice a3 n3 c3) A → IsN B9 w1 (.slice a4 n4 c4) B → Calls Tryz.prog 66 #[.bool false, .slice a3 n3 c3, .slice a4 n4 c4] w1 (RetQ9 q w1)) := fun w1 h1 h2 => hq ▸ red9_any (k := k) h1 h2 HLA.out HLB.out (Nat.le_trans hk.out (by decide)) HB0.out
              have BD : Hid (Bd k q) := hq ▸ Bd.made false HLA.out HLB.out HB0.out
              rw [← hq] at HQS
              clear hz4 h4 hq
              go_wp2_with fail
              refine (CR.out _ V1.out V2.out).mono ?_
              rintro e w3 ⟨v3, rfl, ⟨vn, vd, rfl, hn, hd⟩, hb3⟩
              have P3 := Lib.hid (PK.out _ _ P2.out hb3)
              obtain ⟨a5, n5, c5, rfl, -⟩ := hn.shape (by decide)
              obtain ⟨a6, n6, c6, rfl, -⟩ := hd.shape (by decide)
              obtain ⟨c, hc⟩ : ∃ c, c = qneg q := ⟨_, rfl⟩
              rw [← hc]
              obtain ⟨PB, p0, KK, -, GG⟩ := boxP 28 hc hn hd
              have PB0 := Lib.hid p0
              have P4 := Lib.hid (PK.out _ _ P3.out (below_alloc w3 (.cells #[.bool c, .slice a5 n5 c5, .slice a6 n6 c6] 28)))
              obtain ⟨⟨k0, k1, k2, -, -⟩, -⟩ := GG.out _ p0
              have CT := Lib.hid (text9_any (v := .agg #[.bool c, .slice a5 n5 c5, .slice a6 n6 c6]) ⟨_, _, by rw [hc], (GG.out _ p0).1.isNum, (GG.out _ p0).1.isDen⟩ BD.out (Nat.le_trans hk.out (by decide)))
              obtain ⟨T, hT⟩ : ∃ T : ByteArray, T = ⟨(ratS q).toArray⟩ := ⟨_, rfl⟩
              rw [show str (ratS q) = .string T from by rw [hT]] at CT
              have HC := Lib.hid hc
              by_cases hrl : ratS q = l
              · have hts : (T.toList == s.toList) = true := by
                  rw [ByteArray.toList_eq, ByteArray.toList_eq, HSL.out, hT, beq_iff_eq]; simpa using hrl
                have HPS := Lib.hid (HQS.out.1 hrl)
                clear hrl hT hn hd hb3 p0 hc
                go_wp2_with fail
                refine CT.out.mono ?_
                rintro e w5 ⟨rfl, hb5⟩
                have PB5 := Lib.hid (KK.out _ _ PB0.out hb5)
                have P5 := Lib.hid (PK.out _ _ P4.out hb5)
                clear hb5 k0 k1 k2
                obtain ⟨⟨k0, k1, k2, hn5, hd5⟩, -⟩ := GG.out _ PB5.out
                have HN5 := Lib.hid hn5
                have HD5 := Lib.hid hd5
                have HW := Lib.hid (PG.out _ P5.out)
                obtain ⟨r0, r1, r2, f0, f1, f2⟩ := HW.out.1
                clear hn5 hd5
                go_wp2
                refine bodyPost_ret (by simp [results, Tryz.results23, go_sem, r0, r1, r2]; try rfl) rfl ?_
                rw [HR.out, HPS.out]
                exact ⟨_, rfl, ⟨_, _, by rw [HC.out], HW.out.1.set3 HN5.out _ _ _, HW.out.1.set3 HD5.out _ _ _⟩, below_set3 HW.out.2⟩
              · have hts : (T.toList == s.toList) = false := by
                  rw [ByteArray.toList_eq, ByteArray.toList_eq, HSL.out, hT, beq_eq_false_iff_ne]; simpa using hrl
                have HPN := Lib.hid (HQS.out.2 hrl)
                clear hrl hT hn hd hb3 p0 hc
                go_wp2_with fail
                refine CT.out.mono ?_
                rintro e w5 ⟨rfl, hb5⟩
                have P5 := Lib.hid (PK.out _ _ P4.out hb5)
                clear hb5 k0 k1 k2
                have HW := Lib.hid (PG.out _ P5.out)
                obtain ⟨r0, r1, r2, f0, f1, f2⟩ := HW.out.1
                have HBW := Lib.hid HW.out.2
                go_wp2
                refine bodyPost_ret (by simp [results, Tryz.results23, go_sem, r0, r1, r2]; try rfl) rfl ?_
                rw [HR.out, HPN.out]
                first | exact ⟨rfl, HBW.out⟩ | exact ⟨rfl, below_set3 HBW.out⟩
      · have hc : ((s[i].toNat : Int) == 47) = false := by
          rw [beq_eq_false_iff_ne]; intro e; exact h47 (UInt8.toNat_inj.1 (by rw [show (47 : UInt8).toNat = 47 from rfl]; omega))
        have HNO : Hid ((47 : UInt8) ∉ s.data.toList.take (i + 1)) := by
          show ¬ _
          rw [take_snocB _ i hlt, List.mem_append]
          rintro (h | h)
          · exact hno.out h
          · simp at h; exact h47 h.symm
        clear h47
        go_wp2
        exact ⟨⟨i + 1, by omega, by go_num, rfl, rfl, HNO.out, hp.out⟩, by show _ < _; simp [intOf]; omega⟩
    · obtain rfl : i = s.size := by omega
      have hcut : Hid (Lib.cut s.data.toList [47] = (s.data.toList, [], false)) := by
        have h1 := hno.out
        rw [← lenB, List.take_length] at h1
        exact cut_none h1
      have N1 := Lib.hid (fun w1 => NA.out w1 s (by rw [prC, ← hrl.out, hcut.out]))
      have N2 := Lib.hid (fun w1 => NB.out w1 ⟨#[49]⟩ (by rw [prD, prC, ← hrl.out, hcut.out]; rfl))
      have PC := hp
      clear hno hcut
      go_wp2_with fail
      refine (N1.out _).mono ?_
      cases oA with
      | none =>
        rintro e w1 ⟨rfl, hb1⟩
        have P1 := Lib.hid (PK.out _ _ PC.out hb1)
        have HPN := Lib.hid (HS.out.1 rfl)
        clear hb1
        go_wp2_with fail
        refine (N2.out _).mono ?_
        cases oB with
        | none =>
          rintro e w2 ⟨rfl, hb2⟩
          have P2 := Lib.hid (PK.out _ _ P1.out hb2)
          clear hb2
          have HW := Lib.hid (PG.out _ P2.out)
          obtain ⟨r0, r1, r2, f0, f1, f2⟩ := HW.out.1
          have HBW := Lib.hid HW.out.2
          go_wp2
          refine bodyPost_ret (by simp [results, Tryz.results23, go_sem, r0, r1, r2]; try rfl) rfl ?_
          rw [HR.out, HPN.out]
          first | exact ⟨rfl, HBW.out⟩ | exact ⟨rfl, below_set3 HBW.out⟩
        | some B =>
          rintro e w2 ⟨v2, rfl, hv2, hb2⟩
          have P2 := Lib.hid (PK.out _ _ P1.out hb2)
          obtain ⟨a4, n4, c4, rfl, -⟩ := hv2.shape (by decide)
          clear hb2 hv2
          have HW := Lib.hid (PG.out _ P2.out)
          obtain ⟨r0, r1, r2, f0, f1, f2⟩ := HW.out.1
          have HBW := Lib.hid HW.out.2
          go_wp2
          refine bodyPost_ret (by simp [results, Tryz.results23, go_sem, r0, r1, r2]; try rfl) rfl ?_
          rw [HR.out, HPN.out]
          first | exact ⟨rfl, HBW.out⟩ | exact ⟨rfl, below_set3 HBW.out⟩
      | some A =>
        rintro e w1 ⟨v1, rfl, hv1, hb1⟩
        have P1 := Lib.hid (PK.out _ _ PC.out hb1)
        have V1 := Lib.hid hv1
        obtain ⟨a3, n3, c3, rfl, -⟩ := hv1.shape (by decide)
        clear hb1 hv1
        go_wp2_with fail
        refine (N2.out _).mono ?_
        cases oB with
        | none =>
          rintro e w2 ⟨rfl, hb2⟩
          have P2 := Lib.hid (PK.out _ _ P1.out hb2)
          have HPN := Lib.hid (HS.out.2.1 rfl)
          clear hb2
          have HW := Lib.hid (PG.out _ P2.out)
          obtain ⟨r0, r1, r2, f0, f1, f2⟩ := HW.out.1
          have HBW := Lib.hid HW.out.2
          go_wp2
          refine bodyPost_ret (by simp [results, Tryz.results23, go_sem, r0, r1, r2]; try rfl) rfl ?_
          rw [HR.out, HPN.out]
          first | exact ⟨rfl, HBW.out⟩ | exact ⟨rfl, below_set3 HBW.out⟩
        | some B =>
          rintro e w2 ⟨v2, rfl, hv2, hb2⟩
          have P2 := Lib.hid (PK.out _ _ P1.out hb2)
          have V1 := Lib.hid (V1.out.later hb2)
          have V2 := Lib.hid hv2
          obtain ⟨a4, n4, c4, rfl, hz4⟩ := hv2.shape (by decide)
          clear hb2 hv2
          by_cases h4 : n4 = 0
          · subst h4
            have HPN := Lib.hid (HS.out.2.2.1 A B rfl rfl (hz4.1 rfl))
            clear hz4
            have HW := Lib.hid (PG.out _ P2.out)
            obtain ⟨r0, r1, r2, f0, f1, f2⟩ := HW.out.1
            have HBW := Lib.hid HW.out.2
            go_wp2
            refine bodyPost_ret (by simp [results, Tryz.results23, go_sem, r0, r1, r2]; try rfl) rfl ?_
            rw [HR.out, HPN.out]
            first | exact ⟨rfl, HBW.out⟩ | exact ⟨rfl, below_set3 HBW.out⟩
          · have hn4 : ((n4 : Int) == 0) = false := by rw [beq_eq_false_iff_ne]; omega
            have HB0 : Hid (B ≠ 0) := fun e => h4 (hz4.2 e)
            have HQS := Lib.hid (HS.out.2.2.2 A B rfl rfl HB0.out)
            have HLA := Lib.hid (HL.out.1 A rfl)
            have HLB := Lib.hid (HL.out.2 B rfl)
            obtain ⟨q, hq⟩ : ∃ q, q = mkRat (sgn false A) B := ⟨_, rfl⟩
            have CR : Hid (∀ w1, IsN B9 w1 (.slice a3 n3 c3) A → IsN B9 w1 (.slice a4 n4 c4) B → Calls Tryz.prog 66 #[.bool false, .slice a3 n3 c3, .slice a4 n4 c4] w1 (RetQ9 q w1)) := fun w1 h1 h2 => hq ▸ red9_any (k := k) h1 h2 HLA.out HLB.out (Nat.le_trans hk.out (by decide)) HB0.out
            have BD : Hid (Bd k q) := hq ▸ Bd.made false HLA.out HLB.out HB0.out
            rw [← hq] at HQS
            clear hz4 h4 hq
            go_wp2_with fail
            refine (CR.out _ V1.out V2.out).mono ?_
            rintro e w3 ⟨v3, rfl, ⟨vn, vd, rfl, hn, hd⟩, hb3⟩
            have P3 := Lib.hid (PK.out _ _ P2.out hb3)
            obtain ⟨a5, n5, c5, rfl, -⟩ := hn.shape (by decide)
            obtain ⟨a6, n6, c6, rfl, -⟩ := hd.shape (by decide)
            obtain ⟨c, hc⟩ : ∃ c, c = qneg q := ⟨_, rfl⟩
            rw [← hc]
            obtain ⟨PB, p0, KK, -, GG⟩ := boxP 28 hc hn hd
            have PB0 := Lib.hid p0
            have P4 := Lib.hid (PK.out _ _ P3.out (below_alloc w3 (.cells #[.bool c, .slice a5 n5 c5, .slice a6 n6 c6] 28)))
            obtain ⟨⟨k0, k1, k2, -, -⟩, -⟩ := GG.out _ p0
            have CT := Lib.hid (text9_any (v := .agg #[.bool c, .slice a5 n5 c5, .slice a6 n6 c6]) ⟨_, _, by rw [hc], (GG.out _ p0).1.isNum, (GG.out _ p0).1.isDen⟩ BD.out (Nat.le_trans hk.out (by decide)))
            obtain ⟨T, hT⟩ : ∃ T : ByteArray, T = ⟨(ratS q).toArray⟩ := ⟨_, rfl⟩
            rw [show str (ratS q) = .string T from by rw [hT]] at CT
            have HC := Lib.hid hc
            by_cases hrl : ratS q = l
            · have hts : (T.toList == s.toList) = true := by
                rw [ByteArray.toList_eq, ByteArray.toList_eq, HSL.out, hT, beq_iff_eq]; simpa using hrl
              have HPS := Lib.hid (HQS.out.1 hrl)
              clear hrl hT hn hd hb3 p0 hc
              go_wp2_with fail
              refine CT.out.mono ?_
              rintro e w5 ⟨rfl, hb5⟩
              have PB5 := Lib.hid (KK.out _ _ PB0.out hb5)
              have P5 := Lib.hid (PK.out _ _ P4.out hb5)
              clear hb5 k0 k1 k2
              obtain ⟨⟨k0, k1, k2, hn5, hd5⟩, -⟩ := GG.out _ PB5.out
              have HN5 := Lib.hid hn5
              have HD5 := Lib.hid hd5
              have HW := Lib.hid (PG.out _ P5.out)
              obtain ⟨r0, r1, r2, f0, f1, f2⟩ := HW.out.1
              clear hn5 hd5
              go_wp2
              refine bodyPost_ret (by simp [results, Tryz.results23, go_sem, r0, r1, r2]; try rfl) rfl ?_
              rw [HR.out, HPS.out]
              exact ⟨_, rfl, ⟨_, _, by rw [HC.out], HW.out.1.set3 HN5.out _ _ _, HW.out.1.set3 HD5.out _ _ _⟩, below_set3 HW.out.2⟩
            · have hts : (T.toList == s.toList) = false := by
                rw [ByteArray.toList_eq, ByteArray.toList_eq, HSL.out, hT, beq_eq_false_iff_ne]; simpa using hrl
              have HPN := Lib.hid (HQS.out.2 hrl)
              clear hrl hT hn hd hb3 p0 hc
              go_wp2_with fail
              refine CT.out.mono ?_
              rintro e w5 ⟨rfl, hb5⟩
              have P5 := Lib.hid (PK.out _ _ P4.out hb5)
              clear hb5 k0 k1 k2
              have HW := Lib.hid (PG.out _ P5.out)
              obtain ⟨r0, r1, r2, f0, f1, f2⟩ := HW.out.1
              have HBW := Lib.hid HW.out.2
              go_wp2
              refine bodyPost_ret (by simp [results, Tryz.results23, go_sem, r0, r1, r2]; try rfl) rfl ?_
              rw [HR.out, HPN.out]
              first | exact ⟨rfl, HBW.out⟩ | exact ⟨rfl, below_set3 HBW.out⟩

set_option maxHeartbeats 16000000 in
set_option maxRecDepth 100000 in
theorem parse9_C (s : ByteArray) (w : World) (hs : s.size ≤ 10000) (hp : 0 < s.size) (h0 : s[0] = 45) :
    Calls Tryz.prog 23 #[.string s] w (RetP9 (parseQ s.data.toList) w) := by
  have hd : decide ((10000 : Int) < (s.size : Int)) = false := by rw [decide_eq_false_iff_not]; omega
  obtain ⟨l, hl⟩ : ∃ l, l = s.data.toList := ⟨_, rfl⟩
  have hll : l.length ≤ 10000 := by rw [hl, lenB]; exact hs
  obtain ⟨R, hR⟩ : ∃ R : Ending → World → Prop, R = RetP9 (parseQ l) w := ⟨_, rfl⟩
  rw [← hl, ← hR]
  have HR := Lib.hid hR
  have HSL : Hid (s.data.toList = l) := hl.symm
  have hlen := prC_len1 l
  have hls : l = 45 :: s.data.toList.drop 1 := by
    rw [hl]
    conv => lhs; rw [← List.drop_zero (l := s.data.toList), List.drop_eq_getElem_cons (by rw [lenB]; exact hp)]
    congr 1
  have htr := trim45_pos (s.data.toList.drop 1)
  rw [← hls] at htr
  obtain ⟨E, hE⟩ : ∃ E, E = s.extract 1 s.size := ⟨_, rfl⟩
  have HE := Lib.hid hE
  have hrl : Hid (E.data.toList = Lib.trimPrefix l [45]) := by show _ = _; rw [htr.1, hE, extract_tail]
  have hneg : Hid (prN l = true) := htr.2
  have hc0 : ((s[0].toNat : Int) == 45) = true := by rw [h0]; rfl
  have hrsz : E.size ≤ 10000 := by rw [hE, ByteArray.size_extract]; omega
  clear h0 htr hls hE
  have hsp := parse9_spec l
  rw [hneg.out] at hsp
  obtain ⟨oA, hA⟩ : ∃ oA, oA = parseD (prC l).1 := ⟨_, rfl⟩
  obtain ⟨oB, hB⟩ : ∃ oB, oB = parseD (prD l) := ⟨_, rfl⟩
  rw [← hA, ← hB] at hsp
  have HS : Hid ((oA = none → parseQ l = none) ∧ (oB = none → parseQ l = none) ∧ (∀ A B, oA = some A → oB = some B → B = 0 → parseQ l = none) ∧ (∀ A B, oA = some A → oB = some B → B ≠ 0 → (ratS (mkRat (sgn true A) B) = l → parseQ l = some (mkRat (sgn true A) B)) ∧ (ratS (mkRat (sgn true A) B) ≠ l → parseQ l = none))) := by
    refine ⟨fun h => ?_, fun h => ?_, fun A B h1 h2 h3 => ?_, fun A B h1 h2 h3 => ⟨fun h4 => ?_, fun h4 => ?_⟩⟩
    · rw [hsp, h]
    · rw [hsp, h]; cases oA <;> simp
    · rw [hsp, h1, h2]; simp only; rw [if_pos h3]
    · rw [hsp, h1, h2]; simp only; rw [if_neg h3, if_pos h4]
    · rw [hsp, h1, h2]; simp only; rw [if_neg h3, if_neg h4]
  obtain ⟨k, hk, HL⟩ : ∃ k, Hid (k ≤ 900000) ∧ Hid ((∀ A, oA = some A → A < 2 ^ k) ∧ (∀ B, oB = some B → B < 2 ^ k)) := by
    obtain ⟨K, hK⟩ : ∃ K : Nat, K = 10000 := ⟨_, rfl⟩
    exact ⟨4 * K, by show _ ≤ _; omega, fun A h => parseD_lt (h ▸ hA).symm (by omega), fun B h => parseD_lt (h ▸ hB).symm (by have := prD_len hll; omega)⟩
  have NA : Hid (∀ w1 (S : ByteArray), S.data.toList = (prC l).1 → Calls Tryz.prog 82 #[.string S] w1 (RetNum9 oA w1)) := fun w1 S h => by
    rw [hA, ← h]; exact number9_any w1 S (by rw [← lenB, h]; omega)
  have NB : Hid (∀ w1 (S : ByteArray), S.data.toList = prD l → Calls Tryz.prog 82 #[.string S] w1 (RetNum9 oB w1)) := fun w1 S h => by
    rw [hB, ← h]; exact number9_any w1 S (by rw [← lenB, h]; omega)
  obtain ⟨P, p0, PK, PG⟩ := resP w
  have P0 := Lib.hid p0
  have hrs : E.size ≤ 10000 := hrsz
  clear hl hll hR hlen hsp hA hB p0 hrsz
  go_enter Tryz.func23, Tryz.ntmps23
  go_wp2
  rw [← HE.out]
  go_loopw [6, 7, 8] (fun nv dv iv wr => ∃ i : Nat, i ≤ E.size ∧ iv = .int .i64 (i : Nat) ∧ nv = .string E ∧ dv = .string ⟨#[49]⟩ ∧ Hid ((47 : UInt8) ∉ E.data.toList.take i) ∧ Hid (P wr)) (fun _ _ iv _ => E.size - (intOf iv).toNat)
  case atStart => exact ⟨0, Nat.zero_le _, rfl, rfl, rfl, by show ¬ _; simp, P0.out⟩
  case round =>
    obtain ⟨i, hi, rfl, rfl, rfl, hno, hp⟩ := hrel
    by_cases hlt : i < E.size
    · by_cases h47 : E[i] = 47
      · have hc : ((E[i].toNat : Int) == 47) = true := by rw [h47]; rfl
        have hcut := Lib.hid (cut_at hlt h47 hno.out)
        have N1 := Lib.hid (fun w1 => NA.out w1 (E.extract 0 i) (by rw [extract_pre, prC, ← hrl.out, hcut.out]))
        have N2 := Lib.hid (fun w1 => NB.out w1 (E.extract (i + 1) E.size) (by rw [extract_post, prD, prC, ← hrl.out, hcut.out]; rfl))
        have PC := Lib.hid (PK.out _ _ hp.out (below_drewN' _ 1))
        have b1 : (0 : Int) ≤ (i : Int) := by omega
        have b2 : (i : Int) ≤ (E.size : Int) := by omega
        have b3 : (0 : Int) ≤ (i : Int) + 1 := by omega
        have b4 : (i : Int) + 1 ≤ (E.size : Int) := by omega
        clear h47 hno hcut
        go_wp2
        go_quiet (fail)
        replace PC := Lib.hid (PK.out _ _ hp.out (below_drewN' _ nq))
        go_wp2_with fail
        refine (N1.out _).mono ?_
        cases oA with
        | none =>
          rintro e w1 ⟨rfl, hb1⟩
          have P1 := Lib.hid (PK.out _ _ PC.out hb1)
          have HPN := Lib.hid (HS.out.1 rfl)
          clear hb1
          go_wp2_with fail
          refine (N2.out _).mono ?_
          cases oB with
          | none =>
            rintro e w2 ⟨rfl, hb2⟩
            have P2 := Lib.hid (PK.out _ _ P1.out hb2)
            clear hb2
            have HW := Lib.hid (PG.out _ P2.out)
            obtain ⟨r0, r1, r2, f0, f1, f2⟩ := HW.out.1
            have HBW := Lib.hid HW.out.2
            go_wp2
            refine bodyPost_ret (by simp [results, Tryz.results23, go_sem, r0, r1, r2]; try rfl) rfl ?_
            rw [HR.out, HPN.out]
            first | exact ⟨rfl, HBW.out⟩ | exact ⟨rfl, below_set3 HBW.out⟩
          | some B =>
            rintro e w2 ⟨v2, rfl, hv2, hb2⟩
            have P2 := Lib.hid (PK.out _ _ P1.out hb2)
            obtain ⟨a4, n4, c4, rfl, -⟩ := hv2.shape (by decide)
            clear hb2 hv2
            have HW := Lib.hid (PG.out _ P2.out)
            obtain ⟨r0, r1, r2, f0, f1, f2⟩ := HW.out.1
            have HBW := Lib.hid HW.out.2
            go_wp2
            refine bodyPost_ret (by simp [results, Tryz.results23, go_sem, r0, r1, r2]; try rfl) rfl ?_
            rw [HR.out, HPN.out]
            first | exact ⟨rfl, HBW.out⟩ | exact ⟨rfl, below_set3 HBW.out⟩
        | some A =>
          rintro e w1 ⟨v1, rfl, hv1, hb1⟩
          have P1 := Lib.hid (PK.out _ _ PC.out hb1)
          have V1 := Lib.hid hv1
          obtain ⟨a3, n3, c3, rfl, -⟩ := hv1.shape (by decide)
          clear hb1 hv1
          go_wp2_with fail
          refine (N2.out _).mono ?_
          cases oB with
          | none =>
            rintro e w2 ⟨rfl, hb2⟩
            have P2 := Lib.hid (PK.out _ _ P1.out hb2)
            have HPN := Lib.hid (HS.out.2.1 rfl)
            clear hb2
            have HW := Lib.hid (PG.out _ P2.out)
            obtain ⟨r0, r1, r2, f0, f1, f2⟩ := HW.out.1
            have HBW := Lib.hid HW.out.2
            go_wp2
            refine bodyPost_ret (by simp [results, Tryz.results23, go_sem, r0, r1, r2]; try rfl) rfl ?_
            rw [HR.out, HPN.out]
            first | exact ⟨rfl, HBW.out⟩ | exact ⟨rfl, below_set3 HBW.out⟩
          | some B =>
            rintro e w2 ⟨v2, rfl, hv2, hb2⟩
            have P2 := Lib.hid (PK.out _ _ P1.out hb2)
            have V1 := Lib.hid (V1.out.later hb2)
            have V2 := Lib.hid hv2
            obtain ⟨a4, n4, c4, rfl, hz4⟩ := hv2.shape (by decide)
            clear hb2 hv2
            by_cases h4 : n4 = 0
            · subst h4
              have HPN := Lib.hid (HS.out.2.2.1 A B rfl rfl (hz4.1 rfl))
              clear hz4
              have HW := Lib.hid (PG.out _ P2.out)
              obtain ⟨r0, r1, r2, f0, f1, f2⟩ := HW.out.1
              have HBW := Lib.hid HW.out.2
              go_wp2
              refine bodyPost_ret (by simp [results, Tryz.results23, go_sem, r0, r1, r2]; try rfl) rfl ?_
              rw [HR.out, HPN.out]
              first | exact ⟨rfl, HBW.out⟩ | exact ⟨rfl, below_set3 HBW.out⟩
            · have hn4 : ((n4 : Int) == 0) = false := by rw [beq_eq_false_iff_ne]; omega
              have HB0 : Hid (B ≠ 0) := fun e => h4 (hz4.2 e)
              have HQS := Lib.hid (HS.out.2.2.2 A B rfl rfl HB0.out)
              have HLA := Lib.hid (HL.out.1 A rfl)
              have HLB := Lib.hid (HL.out.2 B rfl)
              obtain ⟨q, hq⟩ : ∃ q, q = mkRat (sgn true A) B := ⟨_, rfl⟩
              have CR : Hid (∀ w1, IsN B9 w1 (.slice a3 n3 c3) A → IsN B9 w1 (.slice a4 n4 c4) B → Calls Tryz.prog 66 #[.bool true, .slice a3 n3 c3, .slice a4 n4 c4] w1 (RetQ9 q w1)) := fun w1 h1 h2 => hq ▸ red9_any (k := k) h1 h2 HLA.out HLB.out (Nat.le_trans hk.out (by decide)) HB0.out
              have BD : Hid (Bd k q) := hq ▸ Bd.made true HLA.out HLB.out HB0.out
              rw [← hq] at HQS
              clear hz4 h4 hq
              go_wp2_with fail
              refine (CR.out _ V1.out V2.out).mono ?_
              rintro e w3 ⟨v3, rfl, ⟨vn, vd, rfl, hn, hd⟩, hb3⟩
              have P3 := Lib.hid (PK.out _ _ P2.out hb3)
              obtain ⟨a5, n5, c5, rfl, -⟩ := hn.shape (by decide)
              obtain ⟨a6, n6, c6, rfl, -⟩ := hd.shape (by decide)
              obtain ⟨c, hc⟩ : ∃ c, c = qneg q := ⟨_, rfl⟩
              rw [← hc]
              obtain ⟨PB, p0, KK, -, GG⟩ := boxP 28 hc hn hd
              have PB0 := Lib.hid p0
              have P4 := Lib.hid (PK.out _ _ P3.out (below_alloc w3 (.cells #[.bool c, .slice a5 n5 c5, .slice a6 n6 c6] 28)))
              obtain ⟨⟨k0, k1, k2, -, -⟩, -⟩ := GG.out _ p0
              have CT := Lib.hid (text9_any (v := .agg #[.bool c, .slice a5 n5 c5, .slice a6 n6 c6]) ⟨_, _, by rw [hc], (GG.out _ p0).1.isNum, (GG.out _ p0).1.isDen⟩ BD.out (Nat.le_trans hk.out (by decide)))
              obtain ⟨T, hT⟩ : ∃ T : ByteArray, T = ⟨(ratS q).toArray⟩ := ⟨_, rfl⟩
              rw [show str (ratS q) = .string T from by rw [hT]] at CT
              have HC := Lib.hid hc
              by_cases hrl : ratS q = l
              · have hts : (T.toList == s.toList) = true := by
                  rw [ByteArray.toList_eq, ByteArray.toList_eq, HSL.out, hT, beq_iff_eq]; simpa using hrl
                have HPS := Lib.hid (HQS.out.1 hrl)
                clear hrl hT hn hd hb3 p0 hc
                go_wp2_with fail
                refine CT.out.mono ?_
                rintro e w5 ⟨rfl, hb5⟩
                have PB5 := Lib.hid (KK.out _ _ PB0.out hb5)
                have P5 := Lib.hid (PK.out _ _ P4.out hb5)
                clear hb5 k0 k1 k2
                obtain ⟨⟨k0, k1, k2, hn5, hd5⟩, -⟩ := GG.out _ PB5.out
                have HN5 := Lib.hid hn5
                have HD5 := Lib.hid hd5
                have HW := Lib.hid (PG.out _ P5.out)
                obtain ⟨r0, r1, r2, f0, f1, f2⟩ := HW.out.1
                clear hn5 hd5
                go_wp2
                refine bodyPost_ret (by simp [results, Tryz.results23, go_sem, r0, r1, r2]; try rfl) rfl ?_
                rw [HR.out, HPS.out]
                exact ⟨_, rfl, ⟨_, _, by rw [HC.out], HW.out.1.set3 HN5.out _ _ _, HW.out.1.set3 HD5.out _ _ _⟩, below_set3 HW.out.2⟩
              · have hts : (T.toList == s.toList) = false := by
                  rw [ByteArray.toList_eq, ByteArray.toList_eq, HSL.out, hT, beq_eq_false_iff_ne]; simpa using hrl
                have HPN := Lib.hid (HQS.out.2 hrl)
                clear hrl hT hn hd hb3 p0 hc
                go_wp2_with fail
                refine CT.out.mono ?_
                rintro e w5 ⟨rfl, hb5⟩
                have P5 := Lib.hid (PK.out _ _ P4.out hb5)
                clear hb5 k0 k1 k2
                have HW := Lib.hid (PG.out _ P5.out)
                obtain ⟨r0, r1, r2, f0, f1, f2⟩ := HW.out.1
                have HBW := Lib.hid HW.out.2
                go_wp2
                refine bodyPost_ret (by simp [results, Tryz.results23, go_sem, r0, r1, r2]; try rfl) rfl ?_
                rw [HR.out, HPN.out]
                first | exact ⟨rfl, HBW.out⟩ | exact ⟨rfl, below_set3 HBW.out⟩
      · have hc : ((E[i].toNat : Int) == 47) = false := by
          rw [beq_eq_false_iff_ne]; intro e; exact h47 (UInt8.toNat_inj.1 (by rw [show (47 : UInt8).toNat = 47 from rfl]; omega))
        have HNO : Hid ((47 : UInt8) ∉ E.data.toList.take (i + 1)) := by
          show ¬ _
          rw [take_snocB _ i hlt, List.mem_append]
          rintro (h | h)
          · exact hno.out h
          · simp at h; exact h47 h.symm
        clear h47
        go_wp2
        exact ⟨⟨i + 1, by omega, by go_num, rfl, rfl, HNO.out, hp.out⟩, by show _ < _; simp [intOf]; omega⟩
    · obtain rfl : i = E.size := by omega
      have hcut : Hid (Lib.cut E.data.toList [47] = (E.data.toList, [], false)) := by
        have h1 := hno.out
        rw [← lenB, List.take_length] at h1
        exact cut_none h1
      have N1 := Lib.hid (fun w1 => NA.out w1 E (by rw [prC, ← hrl.out, hcut.out]))
      have N2 := Lib.hid (fun w1 => NB.out w1 ⟨#[49]⟩ (by rw [prD, prC, ← hrl.out, hcut.out]; rfl))
      have PC := hp
      clear hno hcut
      go_wp2_with fail
      refine (N1.out _).mono ?_
      cases oA with
      | none =>
        rintro e w1 ⟨rfl, hb1⟩
        have P1 := Lib.hid (PK.out _ _ PC.out hb1)
        have HPN := Lib.hid (HS.out.1 rfl)
        clear hb1
        go_wp2_with fail
        refine (N2.out _).mono ?_
        cases oB with
        | none =>
          rintro e w2 ⟨rfl, hb2⟩
          have P2 := Lib.hid (PK.out _ _ P1.out hb2)
          clear hb2
          have HW := Lib.hid (PG.out _ P2.out)
          obtain ⟨r0, r1, r2, f0, f1, f2⟩ := HW.out.1
          have HBW := Lib.hid HW.out.2
          go_wp2
          refine bodyPost_ret (by simp [results, Tryz.results23, go_sem, r0, r1, r2]; try rfl) rfl ?_
          rw [HR.out, HPN.out]
          first | exact ⟨rfl, HBW.out⟩ | exact ⟨rfl, below_set3 HBW.out⟩
        | some B =>
          rintro e w2 ⟨v2, rfl, hv2, hb2⟩
          have P2 := Lib.hid (PK.out _ _ P1.out hb2)
          obtain ⟨a4, n4, c4, rfl, -⟩ := hv2.shape (by decide)
          clear hb2 hv2
          have HW := Lib.hid (PG.out _ P2.out)
          obtain ⟨r0, r1, r2, f0, f1, f2⟩ := HW.out.1
          have HBW := Lib.hid HW.out.2
          go_wp2
          refine bodyPost_ret (by simp [results, Tryz.results23, go_sem, r0, r1, r2]; try rfl) rfl ?_
          rw [HR.out, HPN.out]
          first | exact ⟨rfl, HBW.out⟩ | exact ⟨rfl, below_set3 HBW.out⟩
      | some A =>
        rintro e w1 ⟨v1, rfl, hv1, hb1⟩
        have P1 := Lib.hid (PK.out _ _ PC.out hb1)
        have V1 := Lib.hid hv1
        obtain ⟨a3, n3, c3, rfl, -⟩ := hv1.shape (by decide)
        clear hb1 hv1
        go_wp2_with fail
        refine (N2.out _).mono ?_
        cases oB with
        | none =>
          rintro e w2 ⟨rfl, hb2⟩
          have P2 := Lib.hid (PK.out _ _ P1.out hb2)
          have HPN := Lib.hid (HS.out.2.1 rfl)
          clear hb2
          have HW := Lib.hid (PG.out _ P2.out)
          obtain ⟨r0, r1, r2, f0, f1, f2⟩ := HW.out.1
          have HBW := Lib.hid HW.out.2
          go_wp2
          refine bodyPost_ret (by simp [results, Tryz.results23, go_sem, r0, r1, r2]; try rfl) rfl ?_
          rw [HR.out, HPN.out]
          first | exact ⟨rfl, HBW.out⟩ | exact ⟨rfl, below_set3 HBW.out⟩
        | some B =>
          rintro e w2 ⟨v2, rfl, hv2, hb2⟩
          have P2 := Lib.hid (PK.out _ _ P1.out hb2)
          have V1 := Lib.hid (V1.out.later hb2)
          have V2 := Lib.hid hv2
          obtain ⟨a4, n4, c4, rfl, hz4⟩ := hv2.shape (by decide)
          clear hb2 hv2
          by_cases h4 : n4 = 0
          · subst h4
            have HPN := Lib.hid (HS.out.2.2.1 A B rfl rfl (hz4.1 rfl))
            clear hz4
            have HW := Lib.hid (PG.out _ P2.out)
            obtain ⟨r0, r1, r2, f0, f1, f2⟩ := HW.out.1
            have HBW := Lib.hid HW.out.2
            go_wp2
            refine bodyPost_ret (by simp [results, Tryz.results23, go_sem, r0, r1, r2]; try rfl) rfl ?_
            rw [HR.out, HPN.out]
            first | exact ⟨rfl, HBW.out⟩ | exact ⟨rfl, below_set3 HBW.out⟩
          · have hn4 : ((n4 : Int) == 0) = false := by rw [beq_eq_false_iff_ne]; omega
            have HB0 : Hid (B ≠ 0) := fun e => h4 (hz4.2 e)
            have HQS := Lib.hid (HS.out.2.2.2 A B rfl rfl HB0.out)
            have HLA := Lib.hid (HL.out.1 A rfl)
            have HLB := Lib.hid (HL.out.2 B rfl)
            obtain ⟨q, hq⟩ : ∃ q, q = mkRat (sgn true A) B := ⟨_, rfl⟩
            have CR : Hid (∀ w1, IsN B9 w1 (.slice a3 n3 c3) A → IsN B9 w1 (.slice a4 n4 c4) B → Calls Tryz.prog 66 #[.bool true, .slice a3 n3 c3, .slice a4 n4 c4] w1 (RetQ9 q w1)) := fun w1 h1 h2 => hq ▸ red9_any (k := k) h1 h2 HLA.out HLB.out (Nat.le_trans hk.out (by decide)) HB0.out
            have BD : Hid (Bd k q) := hq ▸ Bd.made true HLA.out HLB.out HB0.out
            rw [← hq] at HQS
            clear hz4 h4 hq
            go_wp2_with fail
            refine (CR.out _ V1.out V2.out).mono ?_
            rintro e w3 ⟨v3, rfl, ⟨vn, vd, rfl, hn, hd⟩, hb3⟩
            have P3 := Lib.hid (PK.out _ _ P2.out hb3)
            obtain ⟨a5, n5, c5, rfl, -⟩ := hn.shape (by decide)
            obtain ⟨a6, n6, c6, rfl, -⟩ := hd.shape (by decide)
            obtain ⟨c, hc⟩ : ∃ c, c = qneg q := ⟨_, rfl⟩
            rw [← hc]
            obtain ⟨PB, p0, KK, -, GG⟩ := boxP 28 hc hn hd
            have PB0 := Lib.hid p0
            have P4 := Lib.hid (PK.out _ _ P3.out (below_alloc w3 (.cells #[.bool c, .slice a5 n5 c5, .slice a6 n6 c6] 28)))
            obtain ⟨⟨k0, k1, k2, -, -⟩, -⟩ := GG.out _ p0
            have CT := Lib.hid (text9_any (v := .agg #[.bool c, .slice a5 n5 c5, .slice a6 n6 c6]) ⟨_, _, by rw [hc], (GG.out _ p0).1.isNum, (GG.out _ p0).1.isDen⟩ BD.out (Nat.le_trans hk.out (by decide)))
            obtain ⟨T, hT⟩ : ∃ T : ByteArray, T = ⟨(ratS q).toArray⟩ := ⟨_, rfl⟩
            rw [show str (ratS q) = .string T from by rw [hT]] at CT
            have HC := Lib.hid hc
            by_cases hrl : ratS q = l
            · have hts : (T.toList == s.toList) = true := by
                rw [ByteArray.toList_eq, ByteArray.toList_eq, HSL.out, hT, beq_iff_eq]; simpa using hrl
              have HPS := Lib.hid (HQS.out.1 hrl)
              clear hrl hT hn hd hb3 p0 hc
              go_wp2_with fail
              refine CT.out.mono ?_
              rintro e w5 ⟨rfl, hb5⟩
              have PB5 := Lib.hid (KK.out _ _ PB0.out hb5)
              have P5 := Lib.hid (PK.out _ _ P4.out hb5)
              clear hb5 k0 k1 k2
              obtain ⟨⟨k0, k1, k2, hn5, hd5⟩, -⟩ := GG.out _ PB5.out
              have HN5 := Lib.hid hn5
              have HD5 := Lib.hid hd5
              have HW := Lib.hid (PG.out _ P5.out)
              obtain ⟨r0, r1, r2, f0, f1, f2⟩ := HW.out.1
              clear hn5 hd5
              go_wp2
              refine bodyPost_ret (by simp [results, Tryz.results23, go_sem, r0, r1, r2]; try rfl) rfl ?_
              rw [HR.out, HPS.out]
              exact ⟨_, rfl, ⟨_, _, by rw [HC.out], HW.out.1.set3 HN5.out _ _ _, HW.out.1.set3 HD5.out _ _ _⟩, below_set3 HW.out.2⟩
            · have hts : (T.toList == s.toList) = false := by
                rw [ByteArray.toList_eq, ByteArray.toList_eq, HSL.out, hT, beq_eq_false_iff_ne]; simpa using hrl
              have HPN := Lib.hid (HQS.out.2 hrl)
              clear hrl hT hn hd hb3 p0 hc
              go_wp2_with fail
              refine CT.out.mono ?_
              rintro e w5 ⟨rfl, hb5⟩
              have P5 := Lib.hid (PK.out _ _ P4.out hb5)
              clear hb5 k0 k1 k2
              have HW := Lib.hid (PG.out _ P5.out)
              obtain ⟨r0, r1, r2, f0, f1, f2⟩ := HW.out.1
              have HBW := Lib.hid HW.out.2
              go_wp2
              refine bodyPost_ret (by simp [results, Tryz.results23, go_sem, r0, r1, r2]; try rfl) rfl ?_
              rw [HR.out, HPN.out]
              first | exact ⟨rfl, HBW.out⟩ | exact ⟨rfl, below_set3 HBW.out⟩

theorem parse9_any (s : ByteArray) (w : World) (hs : s.size ≤ 10000) :
    Calls Tryz.prog 23 #[.string s] w (RetP9 (parseQ s.data.toList) w) := by
  by_cases h0 : s.data.toList = []
  · exact parse9_A s w hs h0
  · have hp : 0 < s.size := by rw [← lenB]; exact List.length_pos_iff.2 h0
    by_cases h1 : s[0] = 45
    · exact parse9_C s w hs hp h1
    · exact parse9_B s w hs hp h1
end Go.Proofs.YtemhidlaaommaaaGreatDoor
