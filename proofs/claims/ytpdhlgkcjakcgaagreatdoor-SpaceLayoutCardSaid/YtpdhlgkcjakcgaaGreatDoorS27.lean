/- Lemmas and contracts, each under its own condition: The laws of layer 2: inside, equal, among, layout. SpaceChunks in plain words: cores, wide boxes, homes, dimension by dimension. SpaceChunks: the plain facts about chunks, their boxes, and homes. -/
import Derived.BigQuiet
import Derived.Test.YtpdhlgkcjakcgaaGreatDoorS13
import Derived.Test.YtpdhlgkcjakcgaaGreatDoorS21
import Derived.Test.YtpdhlgkcjakcgaaGreatDoorS6
import Derived.Test.YtpdhlgkcjakcgaaGreatDoorSameA
/- The laws of layer 2: inside, equal, among, layout. -/
namespace Go.Proofs.YtpdhlgkcjakcgaaGreatDoor
open Go.RowKit

set_option maxHeartbeats 1600000 in
theorem lequal_any (a b : List Int) (v u : Value) (w : World) (ha : Ints w v a) (hb : Ints w u b) :
    Calls Tryz.prog 89 #[v, u] w (RetDr (.bool (decide (a = b))) w) := by
  have HA := Lib.hid ha
  have HB := Lib.hid hb
  have hla := ha.len
  obtain ⟨p, cap, rfl, c1, c2⟩ := ha.shape
  obtain ⟨p', cap', rfl, c1', c2'⟩ := hb.shape
  by_cases hl : a.length = b.length
  · obtain ⟨R, hR⟩ : ∃ R, R = decide (a = b) := ⟨_, rfl⟩
    rw [← hR]
    have HR := Lib.hid hR
    have HL := Lib.hid hl
    rw [← hl] at HB ⊢
    clear ha hb hl hR c1'
    go_enter Tryz.func89, Tryz.ntmps89
    go_wp2
    go_loopw [5] (fun iv wr => ∃ (i nq : Nat), i ≤ a.length ∧ iv = .int .i64 (i : Nat) ∧ Hid (a.take i = b.take i) ∧ wr = w.drewN nq) (fun iv _ => a.length - (intOf iv).toNat)
    case atStart => exact ⟨0, 0, Nat.zero_le _, rfl, rfl, rfl⟩
    case round =>
      obtain ⟨i, n0, hi, rfl, HT, rfl⟩ := hrel
      by_cases hlt : i < a.length
      · obtain ⟨g, o, x, ea, hx, hr⟩ := HA.out.at i hlt
        obtain ⟨g', o', y, ea', hy, hr'⟩ := HB.out.at i (by rw [← HL.out]; exact hlt)
        subst ea ea'
        rw [Nat.mul_one] at hr hr'
        unfold IntR at hr hr'
        have i0 : (0 : Int) ≤ (i : Int) := by omega
        have i1 : (i : Int) < (a.length : Int) := by omega
        have HX := Lib.hid hx
        have HY := Lib.hid hy
        clear hx hy
        by_cases hxy : x = y
        · have hb1 : (x != y) = false := by simp [hxy]
          have HT2 : Hid (a.take (i + 1) = b.take (i + 1)) := by show _ = _; rw [take_snoc' HX.out, take_snoc' HY.out, HT.out, hxy]
          clear hxy
          go_wp2
          go_quiet (fail)
          go_wp2
          exact ⟨⟨i + 1, _, by omega, by go_num, HT2.out, rfl⟩, by show a.length - _ < a.length - _; simp [intOf]; omega⟩
        · have hb1 : (x != y) = true := by rw [bne_iff_ne]; exact hxy
          have HRR : Hid (R = false) := by
            show _ = _
            rw [HR.out]
            apply decide_eq_false
            intro e
            subst e
            have := HX.out.symm.trans HY.out
            exact hxy (Option.some.inj this)
          clear hxy
          go_wp2
          go_quiet (fail)
          go_wp2
          go_ret
          rw [HRR.out]
          refine ⟨rfl, n0 + nq, ?_⟩
          first | rfl | rw [World.drewN_drewN]
      · obtain rfl : i = a.length := by omega
        have HRR : Hid (R = true) := by
          show _ = _
          rw [HR.out]
          apply decide_eq_true
          have := HT.out
          rwa [List.take_length, HL.out, List.take_length] at this
        go_wp2
        go_ret
        rw [HRR.out]
        exact ⟨rfl, _, rfl⟩
  · have hl' : ¬ ((a.length : Int) = b.length) := by omega
    have e : decide (a = b) = false := decide_eq_false (fun e => hl (by rw [e]))
    rw [e]
    clear ha hb hl e
    go_enter Tryz.func89, Tryz.ntmps89
    go_wp2
    go_ret
    exact ⟨rfl, 0, rfl⟩


def inL : List Int → List Int → List Int → Bool
  | l :: ls, h :: hs, x :: xs => if x < l ∨ h < x then false else inL ls hs xs
  | _, _, _ => true
def insideB (lo hi c : List Int) : Bool := decide (lo.length = c.length) && decide (hi.length = c.length) && inL lo hi c
theorem inL_drop {lo hi c : List Int} {i : Nat} {a b x : Int} (ha : lo[i]? = some a) (hb : hi[i]? = some b) (hx : c[i]? = some x) :
    inL (lo.drop i) (hi.drop i) (c.drop i) = if x < a ∨ b < x then false else inL (lo.drop (i + 1)) (hi.drop (i + 1)) (c.drop (i + 1)) := by
  rw [drop_cons ha, drop_cons hb, drop_cons hx, inL]
theorem inside_bad (vlo vhi u : Value) (lo hi c : List Int) (w : World) (hlo : Ints w vlo lo) (hhi : Ints w vhi hi) (hc : Ints w u c) (h : lo.length ≠ c.length ∨ hi.length ≠ c.length) :
    Calls Tryz.prog 37 #[.agg #[vlo, vhi], u] w (RetV' (.bool false) w) := by
  obtain ⟨a1, c1, rfl, -⟩ := hlo.shape
  obtain ⟨a2, c2, rfl, -⟩ := hhi.shape
  obtain ⟨a3, c3, rfl, -⟩ := hc.shape
  clear hlo hhi hc
  by_cases h1 : lo.length = c.length
  · have t1 : ((lo.length : Int) != c.length) = false := by rw [bne_eq_false_iff_eq]; omega
    have t2 : ((hi.length : Int) != c.length) = true := by rw [bne_iff_ne]; rcases h with h | h <;> omega
    clear h h1
    go_enter Tryz.func37, Tryz.ntmps37
    go_wp2
    go_ret
    exact ⟨rfl, below_alloc _ _⟩
  · have t1 : ((lo.length : Int) != c.length) = true := by rw [bne_iff_ne]; omega
    clear h h1
    go_enter Tryz.func37, Tryz.ntmps37
    go_wp2
    go_ret
    exact ⟨rfl, below_alloc _ _⟩
set_option maxHeartbeats 3200000 in
set_option maxRecDepth 100000 in
theorem inside_core (vlo vhi u : Value) (lo hi c : List Int) (w : World) (hlo : Ints w vlo lo) (hhi : Ints w vhi hi) (hc : Ints w u c) (h1 : lo.length = c.length) (h2 : hi.length = c.length) :
    Calls Tryz.prog 37 #[.agg #[vlo, vhi], u] w (RetV' (.bool (inL lo hi c)) w) := by
  have HLO := Lib.hid hlo
  have HHI := Lib.hid hhi
  have HC := Lib.hid hc
  have HL := Lib.hid h1
  have HL2 := Lib.hid h2
  obtain ⟨a1, c1, rfl, k1, k1'⟩ := hlo.shape
  obtain ⟨a2, c2, rfl, -⟩ := hhi.shape
  obtain ⟨a3, c3, rfl, k3, k3'⟩ := hc.shape
  simp only [h1, h2] at HLO HHI ⊢
  obtain ⟨R, hR⟩ : ∃ R, R = inL lo hi c := ⟨_, rfl⟩
  rw [← hR]
  have HR0 := Lib.hid hR
  obtain ⟨W1, hW1, hb1, hbx⟩ := box_at w (.slice a1 c.length c1) (.slice a2 c.length c2)
  have HB1 := Lib.hid hb1
  have HBX := Lib.hid hbx
  clear hlo hhi hc hb1 hbx h1 h2 hR k1
  go_enter Tryz.func37, Tryz.ntmps37
  go_wp2
  rw [← hW1]
  clear hW1
  go_loopw [5] (fun iv wr => ∃ i : Nat, i ≤ c.length ∧ iv = .int .i64 (i : Nat) ∧ Hid (inL (lo.drop i) (hi.drop i) (c.drop i) = R) ∧ Below W1.heap.size W1 wr) (fun iv _ => c.length - (intOf iv).toNat)
  case atStart => exact ⟨0, Nat.zero_le _, rfl, HR0.out.symm, Below.refl _ _⟩
  case round =>
    obtain ⟨i, hi0, rfl, HN, hb⟩ := hrel
    have HBR := Lib.hid hb
    obtain ⟨d0, d1, -⟩ := HBX.out wr hb
    have HBW := Lib.hid (below_keep HB1.out hb)
    clear hb
    by_cases hlt : i < c.length
    · obtain ⟨g1, o1, x, ea1, hx, hr1⟩ := Ls.at (n := c.length) (HLO.out.later IntR.lasts HBW.out) i (by rw [HL.out]; exact hlt)
      obtain ⟨g2, o2, y, ea2, hy, hr2⟩ := Ls.at (n := c.length) (HHI.out.later IntR.lasts HBW.out) i (by rw [HL2.out]; exact hlt)
      obtain ⟨g3, o3, z, ea3, hz, hr3⟩ := (HC.out.later IntR.lasts HBW.out).at i hlt
      subst ea1 ea2 ea3
      rw [Nat.mul_one] at hr1 hr2 hr3
      unfold IntR at hr1 hr2 hr3
      have hn := HN.out
      rw [inL_drop hx hy hz] at hn
      have HNN := Lib.hid hn
      have HI1 : Hid (i + 1 ≤ c.length) := hlt
      have HI2 : Hid (c.length - (i + 1) < c.length - i) := by show _ < _; omega
      have ib0 : (0 : Int) ≤ (i : Int) := by omega
      have ib1 : (i : Int) < (c.length : Int) := by omega
      clear hx hy hz hn HN
      by_cases h1 : z < x
      · have HR : Hid (R = false) := by show _ = _; rw [← HNN.out, if_pos (.inl h1)]
        have t1 : decide (z < x) = true := decide_eq_true h1
        clear h1
        go_wp2_with fail
        go_quiet (fail)
        go_wp2
        go_ret
        rw [HR.out]
        exact ⟨rfl, below_keep HBW.out (below_drewN' _ _)⟩
      · have t1 : decide (z < x) = false := decide_eq_false h1
        by_cases h2 : y < z
        · have HR : Hid (R = false) := by show _ = _; rw [← HNN.out, if_pos (.inr h2)]
          clear h1
          go_wp2_with fail
          go_quiet (fail)
          go_wp2
          go_ret
          rw [HR.out]
          exact ⟨rfl, below_keep HBW.out (below_drewN' _ _)⟩
        · have HR : Hid (inL (lo.drop (i + 1)) (hi.drop (i + 1)) (c.drop (i + 1)) = R) := by show _ = _; rw [← HNN.out, if_neg (fun hh => hh.elim h1 h2)]
          clear h1
          go_wp2_with fail
          go_quiet (fail)
          go_wp2
          exact ⟨⟨i + 1, HI1.out, by go_num, HR.out, below_keep HBR.out (below_drewN' _ _)⟩, HI2.out⟩
    · obtain rfl : i = c.length := by omega
      have hn := HN.out
      have e : inL (lo.drop c.length) (hi.drop c.length) (c.drop c.length) = true := by rw [List.drop_length]; cases lo.drop c.length <;> cases hi.drop c.length <;> rfl
      rw [e] at hn
      have HNN := Lib.hid hn
      clear hn HN e
      go_wp2
      go_ret
      rw [← HNN.out]
      exact ⟨rfl, HBW.out⟩
theorem inside_any (vlo vhi u : Value) (lo hi c : List Int) (w : World) (hlo : Ints w vlo lo) (hhi : Ints w vhi hi) (hc : Ints w u c) :
    Calls Tryz.prog 37 #[.agg #[vlo, vhi], u] w (RetV' (.bool (insideB lo hi c)) w) := by
  unfold insideB
  by_cases h1 : lo.length = c.length
  · by_cases h2 : hi.length = c.length
    · rw [decide_eq_true h1, decide_eq_true h2, Bool.true_and, Bool.true_and]
      exact inside_core vlo vhi u lo hi c w hlo hhi hc h1 h2
    · rw [decide_eq_false h2, Bool.and_false, Bool.false_and]
      exact inside_bad vlo vhi u lo hi c w hlo hhi hc (.inr h2)
  · rw [decide_eq_false h1, Bool.false_and, Bool.false_and]
    exact inside_bad vlo vhi u lo hi c w hlo hhi hc (.inl h1)
set_option maxHeartbeats 1600000 in
theorem among_any (l : List (List Int)) (c : List Int) (v u : Value) (w : World) (hl : RowsI w v l) (hc : Ints w u c) :
    Calls Tryz.prog 38 #[v, u] w (RetV' (.bool (decide (c ∈ l))) w) := by
  have HL := Lib.hid hl
  have HC := Lib.hid hc
  obtain ⟨p, cap, rfl, k1, k2⟩ := hl.shape
  obtain ⟨p', cap', rfl, k1', k2'⟩ := hc.shape
  obtain ⟨R, hR⟩ : ∃ R, R = decide (c ∈ l) := ⟨_, rfl⟩
  rw [← hR]
  have HR := Lib.hid hR
  clear hl hc hR
  go_enter Tryz.func38, Tryz.ntmps38
  go_wp2
  go_loopw [5] (fun iv wr => ∃ i : Nat, i ≤ l.length ∧ iv = .int .i64 (i : Nat) ∧ Hid (c ∉ l.take i) ∧ Below w.heap.size w wr) (fun iv _ => l.length - (intOf iv).toNat)
  case atStart => exact ⟨0, Nat.zero_le _, rfl, (by intro h; cases h), Below.refl _ _⟩
  case round =>
    obtain ⟨i, hi, rfl, HN, hbw⟩ := hrel
    have HBW := Lib.hid hbw
    by_cases hlt : i < l.length
    · obtain ⟨g, o, x, ea, hx, hr⟩ := (HL.out.later RowR.lasts hbw).at i hlt
      subst ea
      rw [Nat.mul_one] at hr
      obtain ⟨v1, x0, hco⟩ := hr.ex
      have CC := Lib.hid (lequal_any x c v1 _ wr hco (HC.out.later IntR.lasts hbw))
      obtain ⟨q1, kp1, rfl, -⟩ := hco.shape
      have HI1 : Hid (i + 1 ≤ l.length) := hlt
      have HI2 : Hid (l.length - (i + 1) < l.length - i) := by show _ < _; omega
      have ib0 : (0 : Int) ≤ (i : Int) := by omega
      have ib1 : (i : Int) < (l.length : Int) := by omega
      have HX := Lib.hid hx
      clear hx hr hco hbw
      by_cases he : x = c
      · rw [decide_eq_true he] at CC
        have HRR : Hid (R = true) := by show _ = _; rw [HR.out, decide_eq_true_eq, ← he]; exact List.mem_of_getElem? HX.out
        clear he
        go_wp2_with fail
        refine CC.out.mono ?_
        rintro e w2 ⟨rfl, n, rfl⟩
        have HBN := Lib.hid (below_keep HBW.out (below_drewN' wr n))
        clear CC
        go_wp2
        go_ret
        rw [HRR.out]
        exact ⟨rfl, HBN.out⟩
      · rw [decide_eq_false he] at CC
        have HRR : Hid (c ∉ l.take (i + 1)) := by
          show ¬ _
          rw [take_snoc' HX.out, List.mem_append, List.mem_singleton]
          exact fun h => h.elim HN.out fun h => he h.symm
        clear he
        go_wp2_with fail
        refine CC.out.mono ?_
        rintro e w2 ⟨rfl, n, rfl⟩
        have HBN := Lib.hid (below_keep HBW.out (below_drewN' wr n))
        clear CC
        go_wp2
        exact ⟨⟨i + 1, HI1.out, by go_num, HRR.out, HBN.out⟩, HI2.out⟩
    · obtain rfl : i = l.length := by omega
      have HRR : Hid (R = false) := by
        show _ = _
        rw [HR.out, decide_eq_false_iff_not]
        have := HN.out
        rwa [List.take_length] at this
      clear hbw
      go_wp2
      go_ret
      rw [HRR.out]
      exact ⟨rfl, HBW.out⟩
theorem llayout_any (vs vo : Value) (l : LayT) (w : World) (h : LayR w vs vo l) :
    Calls Tryz.prog 23 #[layV vs vo l] w (fun e w' => ∃ b : Bool, e = .returned (.bool b) ∧ (b = true → l.sides.length ≤ 10 ∧ l.over.length ≤ 10) ∧ Below w.heap.size w w') := by
  obtain ⟨a1, c1, rfl, -⟩ := h.sides.shape
  obtain ⟨a2, c2, rfl, -⟩ := h.over.shape
  obtain ⟨ss, oo, o, t, f, c⟩ := l
  simp only
  obtain ⟨P, hP⟩ : ∃ P : Ending → World → Prop, P = fun e w' => ∃ b : Bool, e = .returned (.bool b) ∧ (b = true → ss.length ≤ 10 ∧ oo.length ≤ 10) ∧ Below w.heap.size w w' := ⟨_, rfl⟩
  rw [← hP]
  have HP := Lib.hid hP
  clear h hP
  by_cases h1 : ss.length ≤ 10
  · have t1 : decide ((ss.length : Int) ≤ 10) = true := decide_eq_true (by omega)
    by_cases h2 : oo.length ≤ 10
    · have t2 : decide ((oo.length : Int) ≤ 10) = true := decide_eq_true (by omega)
      have H12 := Lib.hid (And.intro h1 h2)
      clear h1 h2
      go_enter Tryz.func23, Tryz.ntmps23
      go_wp2
      rw [HP.out]
      exact ⟨true, rfl, fun _ => H12.out, below_alloc _ _⟩
    · have t2 : decide ((oo.length : Int) ≤ 10) = false := decide_eq_false (by omega)
      clear h1 h2
      go_enter Tryz.func23, Tryz.ntmps23
      go_wp2
      rw [HP.out]
      exact ⟨false, rfl, (fun h => by cases h), below_alloc _ _⟩
  · have t1 : decide ((ss.length : Int) ≤ 10) = false := decide_eq_false (by omega)
    clear h1
    go_enter Tryz.func23, Tryz.ntmps23
    go_wp2
    rw [HP.out]
    exact ⟨false, rfl, (fun h => by cases h), below_alloc _ _⟩
end Go.Proofs.YtpdhlgkcjakcgaaGreatDoor
/- SpaceChunks in plain words: cores, wide boxes, homes, dimension by dimension. -/
namespace Go.Proofs.YtpdhlgkcjakcgaaGreatDoor

/-- whether a chunk is there -/
def okC : List DimT → List Int → List Int → Bool
  | d :: ds, s :: ss, n :: ns => if n < 0 ∨ (d.last - d.lo) / s < n then false else okC ds ss ns
  | _, _, _ => true
def wLo : List DimT → List Int → List Int → List Int → List Int
  | d :: ds, s :: ss, o :: os, n :: ns => max (d.lo + n * s - o) d.lo :: wLo ds ss os ns
  | _, _, _, _ => []
def wHi : List DimT → List Int → List Int → List Int → List Int
  | d :: ds, s :: ss, o :: os, n :: ns => min (d.lo + n * s + s - 1 + o) d.last :: wHi ds ss os ns
  | _, _, _, _ => []
theorem widR_eq : ∀ (lo hi : List Int) (d : List DimT) (s o c : List Int), s.length = d.length → o.length = d.length → c.length = d.length →
    widR lo hi d s o c = if okC d s c = true then some (lo ++ wLo d s o c, hi ++ wHi d s o c) else none
  | lo, hi, [], s, o, c, _, _, _ => by simp [widR, okC, wLo, wHi]
  | lo, hi, d :: ds, s :: ss, o :: os, n :: ns, h1, h2, h3 => by
    rw [widR, okC, wLo, wHi]
    split
    · simp
    · rw [widR_eq _ _ ds ss os ns (by simpa using h1) (by simpa using h2) (by simpa using h3)]
      simp [List.append_assoc]
  | lo, hi, d :: ds, [], o, c, h, _, _ => by simp at h
  | lo, hi, d :: ds, s :: ss, [], c, _, h, _ => by simp at h
  | lo, hi, d :: ds, s :: ss, o :: os, [], _, _, h => by simp at h
theorem okC_iff : ∀ {d : List DimT} {s c : List Int}, s.length = d.length → c.length = d.length →
    (okC d s c = true ↔ ∀ (i : Nat) (x : DimT) (y n : Int), d[i]? = some x → s[i]? = some y → c[i]? = some n → 0 ≤ n ∧ n ≤ (x.last - x.lo) / y)
  | [], s, c, _, _ => by simp [okC]
  | d :: ds, s :: ss, n :: ns, h1, h2 => by
    have ih := okC_iff (d := ds) (s := ss) (c := ns) (by simpa using h1) (by simpa using h2)
    rw [okC]
    constructor
    · intro h i x y m hx hy hm
      split at h
      · cases h
      · rename_i hg
        cases i with
        | zero =>
          simp at hx hy hm
          subst hx hy hm
          omega
        | succ i => exact ih.1 h i x y m (by simpa using hx) (by simpa using hy) (by simpa using hm)
    · intro h
      have h0 := h 0 d s n rfl rfl rfl
      rw [if_neg (by omega)]
      exact ih.2 fun i x y m hx hy hm => h (i + 1) x y m (by simpa using hx) (by simpa using hy) (by simpa using hm)
  | d :: ds, [], c, h, _ => by simp at h
  | d :: ds, s :: ss, [], _, h => by simp at h
theorem wLo_length : ∀ {d : List DimT} {s o c : List Int}, s.length = d.length → o.length = d.length → c.length = d.length → (wLo d s o c).length = d.length
  | [], s, o, c, _, _, _ => by simp [wLo]
  | d :: ds, s :: ss, o :: os, n :: ns, h1, h2, h3 => by
    rw [wLo, List.length_cons, List.length_cons, wLo_length (by simpa using h1) (by simpa using h2) (by simpa using h3)]
  | d :: ds, [], o, c, h, _, _ => by simp at h
  | d :: ds, s :: ss, [], c, _, h, _ => by simp at h
  | d :: ds, s :: ss, o :: os, [], _, _, h => by simp at h
theorem wHi_length : ∀ {d : List DimT} {s o c : List Int}, s.length = d.length → o.length = d.length → c.length = d.length → (wHi d s o c).length = d.length
  | [], s, o, c, _, _, _ => by simp [wHi]
  | d :: ds, s :: ss, o :: os, n :: ns, h1, h2, h3 => by
    rw [wHi, List.length_cons, List.length_cons, wHi_length (by simpa using h1) (by simpa using h2) (by simpa using h3)]
  | d :: ds, [], o, c, h, _, _ => by simp at h
  | d :: ds, s :: ss, [], c, _, h, _ => by simp at h
  | d :: ds, s :: ss, o :: os, [], _, _, h => by simp at h
theorem wLo_get : ∀ {d : List DimT} {s o c : List Int} {i : Nat} {x : DimT} {y z n : Int}, d[i]? = some x → s[i]? = some y → o[i]? = some z → c[i]? = some n → (wLo d s o c)[i]? = some (max (x.lo + n * y - z) x.lo)
  | d :: ds, s :: ss, o :: os, n :: ns, 0, x, y, z, m, hx, hy, hz, hm => by simp at hx hy hz hm; subst hx hy hz hm; rfl
  | d :: ds, s :: ss, o :: os, n :: ns, i + 1, x, y, z, m, hx, hy, hz, hm => by
    rw [wLo, List.getElem?_cons_succ]
    exact wLo_get (by simpa using hx) (by simpa using hy) (by simpa using hz) (by simpa using hm)
  | [], _, _, _, i, x, y, z, m, hx, _, _, _ => by simp at hx
  | _ :: _, [], _, _, i, x, y, z, m, _, hy, _, _ => by simp at hy
  | _ :: _, _ :: _, [], _, i, x, y, z, m, _, _, hz, _ => by simp at hz
  | _ :: _, _ :: _, _ :: _, [], i, x, y, z, m, _, _, _, hm => by simp at hm
theorem wHi_get : ∀ {d : List DimT} {s o c : List Int} {i : Nat} {x : DimT} {y z n : Int}, d[i]? = some x → s[i]? = some y → o[i]? = some z → c[i]? = some n → (wHi d s o c)[i]? = some (min (x.lo + n * y + y - 1 + z) x.last)
  | d :: ds, s :: ss, o :: os, n :: ns, 0, x, y, z, m, hx, hy, hz, hm => by simp at hx hy hz hm; subst hx hy hz hm; rfl
  | d :: ds, s :: ss, o :: os, n :: ns, i + 1, x, y, z, m, hx, hy, hz, hm => by
    rw [wHi, List.getElem?_cons_succ]
    exact wHi_get (by simpa using hx) (by simpa using hy) (by simpa using hz) (by simpa using hm)
  | [], _, _, _, i, x, y, z, m, hx, _, _, _ => by simp at hx
  | _ :: _, [], _, _, i, x, y, z, m, _, hy, _, _ => by simp at hy
  | _ :: _, _ :: _, [], _, i, x, y, z, m, _, _, hz, _ => by simp at hz
  | _ :: _, _ :: _, _ :: _, [], i, x, y, z, m, _, _, _, hm => by simp at hm
theorem inL_iff : ∀ {lo hi c : List Int}, lo.length = c.length → hi.length = c.length → (inL lo hi c = true ↔ ∀ (i : Nat) (a b x : Int), lo[i]? = some a → hi[i]? = some b → c[i]? = some x → a ≤ x ∧ x ≤ b)
  | [], hi, c, _, _ => by simp [inL]
  | l :: ls, h :: hs, x :: xs, h1, h2 => by
    have ih := inL_iff (lo := ls) (hi := hs) (c := xs) (by simpa using h1) (by simpa using h2)
    rw [inL]
    constructor
    · intro hh i a b y ha hb hy
      split at hh
      · cases hh
      · rename_i hg
        cases i with
        | zero => simp at ha hb hy; subst ha hb hy; omega
        | succ i => exact ih.1 hh i a b y (by simpa using ha) (by simpa using hb) (by simpa using hy)
    · intro hh
      have h0 := hh 0 l h x rfl rfl rfl
      rw [if_neg (by omega)]
      exact ih.2 fun i a b y ha hb hy => hh (i + 1) a b y (by simpa using ha) (by simpa using hb) (by simpa using hy)
  | l :: ls, [], c, h1, h2 => by cases c <;> simp at h1 h2
  | l :: ls, h :: hs, [], h1, _ => by simp at h1
theorem insideB_iff {lo hi c : List Int} : insideB lo hi c = true ↔ lo.length = c.length ∧ hi.length = c.length ∧ ∀ (i : Nat) (a b x : Int), lo[i]? = some a → hi[i]? = some b → c[i]? = some x → a ≤ x ∧ x ≤ b := by
  unfold insideB
  rw [Bool.and_eq_true, Bool.and_eq_true, decide_eq_true_eq, decide_eq_true_eq]
  constructor
  · rintro ⟨⟨h1, h2⟩, h3⟩; exact ⟨h1, h2, (inL_iff h1 h2).1 h3⟩
  · rintro ⟨h1, h2, h3⟩; exact ⟨⟨h1, h2⟩, (inL_iff h1 h2).2 h3⟩
/-- the coordinates of a box are those between its bounds -/
theorem ptsL_mem : ∀ {lo hi c : List Int}, lo.length = hi.length → (c ∈ ptsL lo hi ↔ c.length = lo.length ∧ ∀ (i : Nat) (a b x : Int), lo[i]? = some a → hi[i]? = some b → c[i]? = some x → a ≤ x ∧ x ≤ b)
  | [], [], c, _ => by simp [ptsL]
  | l :: ls, h :: hs, c, hl => by
    have ih := fun c => ptsL_mem (lo := ls) (hi := hs) (c := c) (by simpa using hl)
    rw [ptsL, List.mem_flatMap]
    constructor
    · rintro ⟨k, hk, hc⟩
      rw [List.mem_range] at hk
      obtain ⟨y, hy, rfl⟩ := List.mem_map.1 hc
      have hy' := (ih y).1 hy
      refine ⟨by simp [hy'.1], fun i a b x ha hb hx => ?_⟩
      cases i with
      | zero => simp at ha hb hx; subst ha hb hx; omega
      | succ i => exact hy'.2 i a b x (by simpa using ha) (by simpa using hb) (by simpa using hx)
    · rintro ⟨h1, h2⟩
      cases c with
      | nil => simp at h1
      | cons x xs =>
        have h0 := h2 0 l h x rfl rfl rfl
        refine ⟨(x - l).toNat, by rw [List.mem_range]; omega, List.mem_map.2 ⟨xs, (ih xs).2 ⟨by simpa using h1, fun i a b y ha hb hy => h2 (i + 1) a b y (by simpa using ha) (by simpa using hb) (by simpa using hy)⟩, ?_⟩⟩
        congr 1
        omega
  | [], _ :: _, c, h => by simp at h
  | _ :: _, [], c, h => by simp at h
/-- .. in the order in which coordinates are compared -/
theorem ptsL_sorted : ∀ {lo hi : List Int}, (ptsL lo hi).Pairwise fun a b => cmpI a b = -1
  | [], hi => by simp [ptsL]
  | l :: ls, [] => by simp [ptsL]
  | l :: ls, h :: hs => by
    have ih := ptsL_sorted (lo := ls) (hi := hs)
    rw [ptsL, List.pairwise_flatMap]
    refine ⟨fun k hk => ?_, ?_⟩
    · rw [List.pairwise_map]
      refine ih.imp fun {a b} hab => ?_
      rw [cmpI, if_neg (by omega), if_neg (by omega)]
      exact hab
    · refine List.pairwise_lt_range.imp fun {a b} hab x hx y hy => ?_
      obtain ⟨x', -, rfl⟩ := List.mem_map.1 hx
      obtain ⟨y', -, rfl⟩ := List.mem_map.1 hy
      rw [cmpI, if_pos (by omega)]
end Go.Proofs.YtpdhlgkcjakcgaaGreatDoor
/- SpaceChunks: the plain facts about chunks, their boxes, and homes. -/
namespace Go.Proofs.YtpdhlgkcjakcgaaGreatDoor

def hF : List DimT → List Int → List Int → List Int → List Int
  | d :: ds, s :: ss, o :: os, x :: xs => homeF ((x - d.lo) / s) (x - d.lo) s o :: hF ds ss os xs
  | _, _, _, _ => []
def hT : List DimT → List Int → List Int → List Int → List Int
  | d :: ds, s :: ss, o :: os, x :: xs => homeT ((d.last - d.lo) / s) ((x - d.lo) / s) (x - d.lo) s o :: hT ds ss os xs
  | _, _, _, _ => []
theorem homesL_eq : ∀ (lo hi : List Int) (d : List DimT) (s o c : List Int), s.length = d.length → o.length = d.length → c.length = d.length →
    homesL lo hi d s o c = (lo ++ hF d s o c, hi ++ hT d s o c)
  | lo, hi, [], s, o, c, _, _, _ => by simp [homesL, hF, hT]
  | lo, hi, d :: ds, s :: ss, o :: os, n :: ns, h1, h2, h3 => by
    rw [homesL, hF, hT, homesL_eq _ _ ds ss os ns (by simpa using h1) (by simpa using h2) (by simpa using h3)]
    simp [List.append_assoc]
  | lo, hi, d :: ds, [], o, c, h, _, _ => by simp at h
  | lo, hi, d :: ds, s :: ss, [], c, _, h, _ => by simp at h
  | lo, hi, d :: ds, s :: ss, o :: os, [], _, _, h => by simp at h
theorem hF_length : ∀ {d : List DimT} {s o c : List Int}, s.length = d.length → o.length = d.length → c.length = d.length → (hF d s o c).length = d.length
  | [], s, o, c, _, _, _ => by simp [hF]
  | d :: ds, s :: ss, o :: os, n :: ns, h1, h2, h3 => by
    rw [hF, List.length_cons, List.length_cons, hF_length (by simpa using h1) (by simpa using h2) (by simpa using h3)]
  | d :: ds, [], o, c, h, _, _ => by simp at h
  | d :: ds, s :: ss, [], c, _, h, _ => by simp at h
  | d :: ds, s :: ss, o :: os, [], _, _, h => by simp at h
theorem hT_length : ∀ {d : List DimT} {s o c : List Int}, s.length = d.length → o.length = d.length → c.length = d.length → (hT d s o c).length = d.length
  | [], s, o, c, _, _, _ => by simp [hT]
  | d :: ds, s :: ss, o :: os, n :: ns, h1, h2, h3 => by
    rw [hT, List.length_cons, List.length_cons, hT_length (by simpa using h1) (by simpa using h2) (by simpa using h3)]
  | d :: ds, [], o, c, h, _, _ => by simp at h
  | d :: ds, s :: ss, [], c, _, h, _ => by simp at h
  | d :: ds, s :: ss, o :: os, [], _, _, h => by simp at h
theorem hF_get : ∀ {d : List DimT} {s o c : List Int} {i : Nat} {x : DimT} {y z n : Int}, d[i]? = some x → s[i]? = some y → o[i]? = some z → c[i]? = some n → (hF d s o c)[i]? = some (homeF ((n - x.lo) / y) (n - x.lo) y z)
  | d :: ds, s :: ss, o :: os, n :: ns, 0, x, y, z, m, hx, hy, hz, hm => by simp at hx hy hz hm; subst hx hy hz hm; rfl
  | d :: ds, s :: ss, o :: os, n :: ns, i + 1, x, y, z, m, hx, hy, hz, hm => by
    rw [hF, List.getElem?_cons_succ]
    exact hF_get (by simpa using hx) (by simpa using hy) (by simpa using hz) (by simpa using hm)
  | [], _, _, _, i, x, y, z, m, hx, _, _, _ => by simp at hx
  | _ :: _, [], _, _, i, x, y, z, m, _, hy, _, _ => by simp at hy
  | _ :: _, _ :: _, [], _, i, x, y, z, m, _, _, hz, _ => by simp at hz
  | _ :: _, _ :: _, _ :: _, [], i, x, y, z, m, _, _, _, hm => by simp at hm
theorem hT_get : ∀ {d : List DimT} {s o c : List Int} {i : Nat} {x : DimT} {y z n : Int}, d[i]? = some x → s[i]? = some y → o[i]? = some z → c[i]? = some n → (hT d s o c)[i]? = some (homeT ((x.last - x.lo) / y) ((n - x.lo) / y) (n - x.lo) y z)
  | d :: ds, s :: ss, o :: os, n :: ns, 0, x, y, z, m, hx, hy, hz, hm => by simp at hx hy hz hm; subst hx hy hz hm; rfl
  | d :: ds, s :: ss, o :: os, n :: ns, i + 1, x, y, z, m, hx, hy, hz, hm => by
    rw [hT, List.getElem?_cons_succ]
    exact hT_get (by simpa using hx) (by simpa using hy) (by simpa using hz) (by simpa using hm)
  | [], _, _, _, i, x, y, z, m, hx, _, _, _ => by simp at hx
  | _ :: _, [], _, _, i, x, y, z, m, _, hy, _, _ => by simp at hy
  | _ :: _, _ :: _, [], _, i, x, y, z, m, _, _, hz, _ => by simp at hz
  | _ :: _, _ :: _, _ :: _, [], i, x, y, z, m, _, _, _, hm => by simp at hm

theorem at_lt {α : Type} {l : List α} {i : Nat} (h : i < l.length) : ∃ x, l[i]? = some x := ⟨_, List.getElem?_eq_getElem h⟩
theorem lt_at {α : Type} {l : List α} {i : Nat} {x : α} (h : l[i]? = some x) : i < l.length := (List.getElem?_eq_some_iff.1 h).1

/-- coordinates of dimensions under a layout -/
structure ChkG (d : List DimT) (s o c : List Int) : Prop where
  ls : s.length = d.length
  lo : o.length = d.length
  lc : c.length = d.length
  gd : ∀ x ∈ d, GoodD x
  gs : ∀ (i : Nat) (x y : Int), s[i]? = some x → o[i]? = some y → GoodS x y
  of : ofL d c = true
theorem chunkE_parts {d : List DimT} {l : LayT} {c : List Int} (h : chunkE d l c = 0) : layoutE d l = 0 ∧ c.length = d.length ∧ ofL d c = true := by
  have h1 : layoutE d l = 0 := by
    apply Classical.byContradiction
    intro h9
    have : chunkE d l c = layoutE d l := if_pos h9
    omega
  have h2 : c.length = d.length := by
    apply Classical.byContradiction
    intro h9
    have : chunkE d l c = 13 := by unfold chunkE; rw [if_neg (fun h' => h' h1), if_pos h9]
    omega
  refine ⟨h1, h2, ?_⟩
  cases h9 : ofL d c with
  | true => rfl
  | false =>
    have : chunkE d l c = 3 := by unfold chunkE; rw [if_neg (fun h' => h' h1), if_neg (fun h' => h' h2), if_pos h9]
    omega
theorem ChkG.of_chunk {d : List DimT} {l : LayT} {c : List Int} (h : chunkE d l c = 0) : ChkG d l.sides l.over c := by
  obtain ⟨h1, h2, h3⟩ := chunkE_parts h
  have hg := layout_good h1
  exact ⟨hg.sides, hg.over, h2, (dims_good hg.dims).2.2, hg.good, h3⟩

/-- what holds of the numbers along one dimension -/
structure NumF (x : DimT) (y z a n Q : Int) : Prop where
  y1 : 1 ≤ y
  z0 : 0 ≤ z
  zy : z ≤ y
  n0 : 0 ≤ n
  nQ : n ≤ Q
  a1 : n * y ≤ a - x.lo
  a2 : a - x.lo < n * y + y
  q1 : Q * y ≤ x.last - x.lo
  q2 : x.last - x.lo < Q * y + y
  al : x.lo ≤ a
  ah : a ≤ x.last
  big : Q ≤ 2147483648
theorem ChkG.num {d : List DimT} {s o c : List Int} (h : ChkG d s o c) {i : Nat} {x : DimT} {y z a : Int} (hx : d[i]? = some x) (hy : s[i]? = some y) (hz : o[i]? = some z) (ha : c[i]? = some a) :
    NumF x y z a ((a - x.lo) / y) ((x.last - x.lo) / y) := by
  have gs := h.gs i y z hy hz
  have gd := h.gd x (List.mem_of_getElem? hx)
  obtain ⟨b1, b2⟩ := ofL_good h.of hx ha
  have g1 := gs.s1
  have hl := gd.last
  have hlo := gd.lo
  have e1 : ∀ t : Int, t / y * y ≤ t ∧ t < t / y * y + y := fun t => by
    have h1 := Int.mul_ediv_add_emod t y
    have h2 := Int.emod_nonneg t (show y ≠ 0 by omega)
    have h3 := Int.emod_lt_of_pos t (show 0 < y by omega)
    rw [Int.mul_comm] at h1
    omega
  refine ⟨g1, gs.o1, gs.o3, Int.ediv_nonneg (by omega) (by omega), Int.ediv_le_ediv (by omega) (by omega), (e1 _).1, (e1 _).2, (e1 _).1, (e1 _).2, b1, b2, ?_⟩
  have := Int.ediv_le_self y (show 0 ≤ x.last - x.lo by omega)
  omega
theorem ins_iff {d : List DimT} {s o h p : List Int} (h1 : s.length = d.length) (h2 : o.length = d.length) (h3 : h.length = d.length) (h4 : p.length = d.length) :
    insideB (wLo d s o h) (wHi d s o h) p = true ↔ ∀ (i : Nat) (x : DimT) (y z n b : Int), d[i]? = some x → s[i]? = some y → o[i]? = some z → h[i]? = some n → p[i]? = some b → max (x.lo + n * y - z) x.lo ≤ b ∧ b ≤ min (x.lo + n * y + y - 1 + z) x.last := by
  rw [insideB_iff]
  constructor
  · rintro ⟨-, -, H⟩ i x y z n b hx hy hz hn hb
    exact H i _ _ b (wLo_get hx hy hz hn) (wHi_get hx hy hz hn) hb
  · intro H
    refine ⟨by rw [wLo_length h1 h2 h3, h4], by rw [wHi_length h1 h2 h3, h4], fun i a b p' ha hb hp => ?_⟩
    have hi := lt_at hp
    obtain ⟨x, hx⟩ := at_lt (l := d) (i := i) (by omega)
    obtain ⟨y, hy⟩ := at_lt (l := s) (i := i) (by omega)
    obtain ⟨z, hz⟩ := at_lt (l := o) (i := i) (by omega)
    obtain ⟨n, hn⟩ := at_lt (l := h) (i := i) (by omega)
    have e1 := ha.symm.trans (wLo_get hx hy hz hn)
    have e2 := hb.symm.trans (wHi_get hx hy hz hn)
    injection e1 with e1
    injection e2 with e2
    subst e1 e2
    exact H i x y z n p' hx hy hz hn hp
theorem homes_iff {d : List DimT} {l : LayT} {c h : List Int} (hc : chunkE d l c = 0) :
    h ∈ homesQ d l c ↔ h.length = d.length ∧ ∀ (i : Nat) (x : DimT) (y z a n : Int), d[i]? = some x → l.sides[i]? = some y → l.over[i]? = some z → c[i]? = some a → h[i]? = some n → homeF ((a - x.lo) / y) (a - x.lo) y z ≤ n ∧ n ≤ homeT ((x.last - x.lo) / y) ((a - x.lo) / y) (a - x.lo) y z := by
  have hg := ChkG.of_chunk hc
  have e : homesQ d l c = ptsL (hF d l.sides l.over c) (hT d l.sides l.over c) := by
    unfold homesQ
    rw [if_pos hc, homesL_eq _ _ _ _ _ _ hg.ls hg.lo hg.lc]
    rfl
  have l1 := hF_length hg.ls hg.lo hg.lc
  have l2 := hT_length hg.ls hg.lo hg.lc
  rw [e, ptsL_mem (l1.trans l2.symm), l1]
  constructor
  · rintro ⟨h1, H⟩
    exact ⟨h1, fun i x y z a n hx hy hz ha hn => H i _ _ n (hF_get hx hy hz ha) (hT_get hx hy hz ha) hn⟩
  · rintro ⟨h1, H⟩
    refine ⟨h1, fun i a b p' ha hb hp => ?_⟩
    have hi := lt_at hp
    obtain ⟨x, hx⟩ := at_lt (l := d) (i := i) (by omega)
    obtain ⟨y, hy⟩ := at_lt (l := l.sides) (i := i) (by rw [hg.ls]; omega)
    obtain ⟨z, hz⟩ := at_lt (l := l.over) (i := i) (by rw [hg.lo]; omega)
    obtain ⟨n, hn⟩ := at_lt (l := c) (i := i) (by rw [hg.lc]; omega)
    have e1 := ha.symm.trans (hF_get hx hy hz hn)
    have e2 := hb.symm.trans (hT_get hx hy hz hn)
    injection e1 with e1
    injection e2 with e2
    subst e1 e2
    exact H i x y z n p' hx hy hz hn hp
theorem homesQ_sorted (d : List DimT) (l : LayT) (c : List Int) : (homesQ d l c).Pairwise fun a b => cmpI a b = -1 := by
  unfold homesQ
  split
  · exact ptsL_sorted
  · exact List.Pairwise.nil
theorem home_num {x : DimT} {y z a n Q k : Int} (f : NumF x y z a n Q) (h1 : homeF n (a - x.lo) y z ≤ k) (h2 : k ≤ homeT Q n (a - x.lo) y z) :
    0 ≤ k ∧ k ≤ Q ∧ max (x.lo + k * y - z) x.lo ≤ a ∧ a ≤ min (x.lo + k * y + y - 1 + z) x.last := by
  obtain ⟨y1, z0, zy, n0, nQ, a1, a2, q1, q2, al, ah, -⟩ := f
  unfold homeF at h1
  unfold homeT at h2
  have e1 : (n + 1) * y = n * y + y := by rw [Int.add_mul, Int.one_mul]
  rw [e1] at h2
  have hk : k = n ∨ k = n - 1 ∧ 0 < n ∧ a - x.lo < n * y + z ∨ k = n + 1 ∧ n * y + y ≤ a - x.lo + z ∧ n < Q := by
    split at h1 <;> split at h2 <;> omega
  rcases hk with rfl | ⟨rfl, h3, h4⟩ | ⟨rfl, h3, h4⟩
  · refine ⟨n0, nQ, by omega, by omega⟩
  · rw [Int.sub_mul, Int.one_mul]
    refine ⟨by omega, by omega, by omega, by omega⟩
  · rw [e1]
    refine ⟨by omega, by omega, by omega, by omega⟩
theorem ok_home {d : List DimT} {l : LayT} {c h : List Int} (hc : chunkE d l c = 0) (hh : h ∈ homesQ d l c) : h.length = d.length ∧ okC d l.sides h = true ∧ insideB (wLo d l.sides l.over h) (wHi d l.sides l.over h) c = true ∧ ∀ x ∈ h, -9223372036854775808 ≤ x ∧ x ≤ 9223372036854775807 := by
  have hg := ChkG.of_chunk hc
  obtain ⟨h1, H⟩ := (homes_iff hc).1 hh
  have K : ∀ i, i < d.length → ∀ n, h[i]? = some n → ∃ x y z a, d[i]? = some x ∧ l.sides[i]? = some y ∧ l.over[i]? = some z ∧ c[i]? = some a ∧ 0 ≤ n ∧ n ≤ (x.last - x.lo) / y ∧ max (x.lo + n * y - z) x.lo ≤ a ∧ a ≤ min (x.lo + n * y + y - 1 + z) x.last ∧ (x.last - x.lo) / y ≤ 2147483648 := fun i hi n hn => by
    obtain ⟨x, hx⟩ := at_lt (l := d) (i := i) (by omega)
    obtain ⟨y, hy⟩ := at_lt (l := l.sides) (i := i) (by rw [hg.ls]; omega)
    obtain ⟨z, hz⟩ := at_lt (l := l.over) (i := i) (by rw [hg.lo]; omega)
    obtain ⟨a, ha⟩ := at_lt (l := c) (i := i) (by rw [hg.lc]; omega)
    obtain ⟨g1, g2⟩ := H i x y z a n hx hy hz ha hn
    obtain ⟨k1, k2, k3, k4⟩ := home_num (hg.num hx hy hz ha) g1 g2
    exact ⟨x, y, z, a, hx, hy, hz, ha, k1, k2, k3, k4, (hg.num hx hy hz ha).big⟩
  refine ⟨h1, (okC_iff hg.ls h1).2 fun i x y n hx hy hn => ?_, (ins_iff hg.ls hg.lo h1 hg.lc).2 fun i x y z n b hx hy hz hn hb => ?_, fun n hn => ?_⟩
  · obtain ⟨x', y', z', a', hx', hy', -, -, k1, k2, -⟩ := K i (lt_at hx) n hn
    rw [hx] at hx'
    rw [hy] at hy'
    cases hx'; cases hy'
    exact ⟨k1, k2⟩
  · obtain ⟨x', y', z', a', hx', hy', hz', ha', -, -, k3, k4, -⟩ := K i (lt_at hx) n hn
    rw [hx] at hx'
    rw [hy] at hy'
    rw [hz] at hz'
    rw [hb] at ha'
    cases hx'; cases hy'; cases hz'; cases ha'
    exact ⟨k3, k4⟩
  · obtain ⟨i, hi, rfl⟩ := List.getElem_of_mem hn
    obtain ⟨x', y', z', a', -, -, -, -, k1, k2, -, -, k5⟩ := K i (by omega) h[i] (List.getElem?_eq_getElem hi)
    omega
/-- the chunk of coordinates is one of their homes -/
theorem chunk_home {d : List DimT} {l : LayT} {c : List Int} (hc : chunkE d l c = 0) : chunkL d l.sides c ∈ homesQ d l c := by
  have hg := ChkG.of_chunk hc
  refine (homes_iff hc).2 ⟨chunkL_length hg.ls hg.lc, fun i x y z a n hx hy hz ha hn => ?_⟩
  have e := hn.symm.trans (chunkL_get hx hy ha)
  cases e
  exact ⟨(homeF_range (hg.num hx hy hz ha).n0).2.1, homeT_range.1⟩
theorem rep_get {n i : Nat} {z : Int} (h : (List.replicate n (0 : Int))[i]? = some z) : z = 0 := by
  rw [List.getElem?_replicate] at h
  split at h
  · exact (Option.some.inj h).symm
  · cases h
/-- coordinates are in the core of their chunk -/
theorem core_has {d : List DimT} {l : LayT} {c : List Int} (hc : chunkE d l c = 0) :
    insideB (wLo d l.sides (List.replicate l.over.length 0) (chunkL d l.sides c)) (wHi d l.sides (List.replicate l.over.length 0) (chunkL d l.sides c)) c = true := by
  have hg := ChkG.of_chunk hc
  refine (ins_iff hg.ls (by rw [List.length_replicate]; exact hg.lo) (chunkL_length hg.ls hg.lc) hg.lc).2 fun i x y z n b hx hy hz hn hb => ?_
  obtain rfl := rep_get hz
  obtain ⟨z', hz'⟩ := at_lt (l := l.over) (i := i) (by rw [hg.lo]; exact lt_at hx)
  have e := hn.symm.trans (chunkL_get hx hy hb)
  cases e
  obtain ⟨y1, z0, zy, n0, nQ, a1, a2, q1, q2, al, ah, -⟩ := hg.num hx hy hz' hb
  omega
/-- the wide box holds the ends of the core -/
theorem wide_lo {d : List DimT} {l : LayT} {c : List Int} (hc : chunkE d l c = 0) :
    insideB (wLo d l.sides l.over (chunkL d l.sides c)) (wHi d l.sides l.over (chunkL d l.sides c)) (wLo d l.sides (List.replicate l.over.length 0) (chunkL d l.sides c)) = true := by
  have hg := ChkG.of_chunk hc
  have hr : (List.replicate l.over.length (0 : Int)).length = d.length := by rw [List.length_replicate]; exact hg.lo
  have hl := chunkL_length hg.ls hg.lc
  refine (ins_iff hg.ls hg.lo hl (wLo_length hg.ls hr hl)).2 fun i x y z n b hx hy hz hn hb => ?_
  obtain ⟨a, ha⟩ := at_lt (l := c) (i := i) (by rw [hg.lc]; exact lt_at hx)
  have h0 : (List.replicate l.over.length (0 : Int))[i]? = some 0 := by rw [List.getElem?_replicate, if_pos (lt_at hz)]
  have e2 := hb.symm.trans (wLo_get hx hy h0 hn)
  cases e2
  have e := hn.symm.trans (chunkL_get hx hy ha)
  cases e
  obtain ⟨y1, z0, zy, n0, nQ, a1, a2, q1, q2, al, ah, -⟩ := hg.num hx hy hz ha
  omega
theorem wide_hi {d : List DimT} {l : LayT} {c : List Int} (hc : chunkE d l c = 0) :
    insideB (wLo d l.sides l.over (chunkL d l.sides c)) (wHi d l.sides l.over (chunkL d l.sides c)) (wHi d l.sides (List.replicate l.over.length 0) (chunkL d l.sides c)) = true := by
  have hg := ChkG.of_chunk hc
  have hr : (List.replicate l.over.length (0 : Int)).length = d.length := by rw [List.length_replicate]; exact hg.lo
  have hl := chunkL_length hg.ls hg.lc
  refine (ins_iff hg.ls hg.lo hl (wHi_length hg.ls hr hl)).2 fun i x y z n b hx hy hz hn hb => ?_
  obtain ⟨a, ha⟩ := at_lt (l := c) (i := i) (by rw [hg.lc]; exact lt_at hx)
  have h0 : (List.replicate l.over.length (0 : Int))[i]? = some 0 := by rw [List.getElem?_replicate, if_pos (lt_at hz)]
  have e2 := hb.symm.trans (wHi_get hx hy h0 hn)
  cases e2
  have e := hn.symm.trans (chunkL_get hx hy ha)
  cases e
  obtain ⟨y1, z0, zy, n0, nQ, a1, a2, q1, q2, al, ah, -⟩ := hg.num hx hy hz ha
  omega
/-- the neighbor along dimension i -/
theorem next_get {c : List Int} {i j : Nat} {n m : Int} (hn : c[i]? = some n) (hm : (c.set i (n + 1))[j]? = some m) : j = i ∧ m = n + 1 ∨ j ≠ i ∧ c[j]? = some m := by
  by_cases e : j = i
  · subst e
    rw [List.getElem?_set_self (lt_at hn)] at hm
    exact .inl ⟨rfl, (Option.some.inj hm).symm⟩
  · rw [List.getElem?_set_ne (Ne.symm e)] at hm
    exact .inr ⟨e, hm⟩
theorem next_ok {d : List DimT} {l : LayT} {c : List Int} (hc : chunkE d l c = 0) {i : Nat} {x : DimT} {y a : Int} (hx : d[i]? = some x) (hy : l.sides[i]? = some y) (ha : c[i]? = some a) :
    okC d l.sides ((chunkL d l.sides c).set i ((a - x.lo) / y + 1)) = decide ((a - x.lo) / y + 1 ≤ (x.last - x.lo) / y) := by
  have hg := ChkG.of_chunk hc
  have hl := chunkL_length hg.ls hg.lc
  obtain ⟨z, hz⟩ := at_lt (l := l.over) (i := i) (by rw [hg.lo]; exact lt_at hx)
  have hf := hg.num hx hy hz ha
  have hn := chunkL_get hx hy ha
  rw [Bool.eq_iff_iff, decide_eq_true_eq, okC_iff hg.ls (by rw [List.length_set]; exact hl)]
  constructor
  · intro H
    exact (H i x y _ hx hy (by rw [List.getElem?_set_self (lt_at hn)])).2
  · intro h j x' y' m hx' hy' hm
    rcases next_get hn hm with ⟨rfl, rfl⟩ | ⟨hne, hm'⟩
    · rw [hx] at hx'
      rw [hy] at hy'
      cases hx'; cases hy'
      have := hf.n0
      exact ⟨by omega, h⟩
    · obtain ⟨a', ha'⟩ := at_lt (l := c) (i := j) (by rw [hg.lc]; exact lt_at hx')
      obtain ⟨z', hz'⟩ := at_lt (l := l.over) (i := j) (by rw [hg.lo]; exact lt_at hx')
      have e := hm'.symm.trans (chunkL_get hx' hy' ha')
      cases e
      exact ⟨(hg.num hx' hy' hz' ha').n0, (hg.num hx' hy' hz' ha').nQ⟩
theorem next_in {d : List DimT} {l : LayT} {c : List Int} (hc : chunkE d l c = 0) {i : Nat} {x : DimT} {y a : Int} (hx : d[i]? = some x) (hy : l.sides[i]? = some y) (ha : c[i]? = some a)
    (hok : okC d l.sides ((chunkL d l.sides c).set i ((a - x.lo) / y + 1)) = true) :
    insideB (wLo d l.sides l.over ((chunkL d l.sides c).set i ((a - x.lo) / y + 1))) (wHi d l.sides l.over ((chunkL d l.sides c).set i ((a - x.lo) / y + 1))) c = decide ((chunkL d l.sides c).set i ((a - x.lo) / y + 1) ∈ homesQ d l c) := by
  have hg := ChkG.of_chunk hc
  have hl := chunkL_length hg.ls hg.lc
  have hl2 : ((chunkL d l.sides c).set i ((a - x.lo) / y + 1)).length = d.length := by rw [List.length_set]; exact hl
  rw [next_ok hc hx hy ha, decide_eq_true_eq] at hok
  have hn := chunkL_get hx hy ha
  obtain ⟨z, hz⟩ := at_lt (l := l.over) (i := i) (by rw [hg.lo]; exact lt_at hx)
  obtain ⟨y1, z0, zy, n0, nQ, a1, a2, q1, q2, al, ah, -⟩ := hg.num hx hy hz ha
  have e1 : ((a - x.lo) / y + 1) * y = (a - x.lo) / y * y + y := by rw [Int.add_mul, Int.one_mul]
  rw [Bool.eq_iff_iff, decide_eq_true_eq, ins_iff hg.ls hg.lo hl2 hg.lc, homes_iff hc]
  constructor
  · intro H
    refine ⟨hl2, fun j x' y' z' a' m hx' hy' hz' ha' hm => ?_⟩
    have h0 := H j x' y' z' m a' hx' hy' hz' hm ha'
    rcases next_get hn hm with ⟨rfl, rfl⟩ | ⟨hne, hm'⟩
    · rw [hx] at hx'
      rw [hy] at hy'
      rw [ha] at ha'
      rw [hz] at hz'
      cases hx'; cases hy'; cases ha'; cases hz'
      rw [e1] at h0
      have r1 := homeF_range (off := a - x.lo) (s := y) (o := z) n0
      refine ⟨by omega, ?_⟩
      unfold homeT
      rw [if_pos ⟨by rw [e1]; omega, by omega⟩]
      exact Int.le_refl _
    · have e := hm'.symm.trans (chunkL_get hx' hy' ha')
      cases e
      exact ⟨(homeF_range (hg.num hx' hy' hz' ha').n0).2.1, homeT_range.1⟩
  · rintro ⟨-, H⟩ j x' y' z' m b hx' hy' hz' hm hb
    have h0 := H j x' y' z' b m hx' hy' hz' hb hm
    exact (home_num (hg.num hx' hy' hz' hb) h0.1 h0.2).2.2
/-- where a chunk ends, and its neighbor begins -/
theorem core_end {d : List DimT} {l : LayT} {c : List Int} (hc : chunkE d l c = 0) {i : Nat} {x : DimT} {y a : Int} (hx : d[i]? = some x) (hy : l.sides[i]? = some y) (ha : c[i]? = some a) :
    ∃ e, (wHi d l.sides (List.replicate l.over.length 0) (chunkL d l.sides c))[i]? = some e ∧
      (okC d l.sides ((chunkL d l.sides c).set i ((a - x.lo) / y + 1)) = false → e = x.last) ∧
      (okC d l.sides ((chunkL d l.sides c).set i ((a - x.lo) / y + 1)) = true → (wLo d l.sides (List.replicate l.over.length 0) ((chunkL d l.sides c).set i ((a - x.lo) / y + 1)))[i]? = some (e + 1)) := by
  have hg := ChkG.of_chunk hc
  have hn := chunkL_get hx hy ha
  obtain ⟨z, hz⟩ := at_lt (l := l.over) (i := i) (by rw [hg.lo]; exact lt_at hx)
  have h0 : (List.replicate l.over.length (0 : Int))[i]? = some 0 := by rw [List.getElem?_replicate, if_pos (lt_at hz)]
  obtain ⟨y1, z0, zy, n0, nQ, a1, a2, q1, q2, al, ah, -⟩ := hg.num hx hy hz ha
  refine ⟨_, wHi_get hx hy h0 hn, fun h => ?_, fun h => ?_⟩
  · rw [next_ok hc hx hy ha, decide_eq_false_iff_not] at h
    have e : (a - x.lo) / y = (x.last - x.lo) / y := by omega
    rw [← e] at q2
    omega
  · rw [next_ok hc hx hy ha, decide_eq_true_eq] at h
    rw [wLo_get hx hy h0 (List.getElem?_set_self (lt_at hn))]
    congr 1
    have e1 : ((a - x.lo) / y + 1) * y = (a - x.lo) / y * y + y := by rw [Int.add_mul, Int.one_mul]
    have e2 := Int.mul_le_mul_of_nonneg_right h (show 0 ≤ y by omega)
    rw [e1] at e2 ⊢
    omega
/-- the first chunk begins where the dimension does -/
theorem core_first {d : List DimT} {l : LayT} {c : List Int} (hc : chunkE d l c = 0) {i : Nat} {x : DimT} {y a : Int} (hx : d[i]? = some x) (hy : l.sides[i]? = some y) (ha : c[i]? = some a) :
    ∃ e, (wLo d l.sides (List.replicate l.over.length 0) (chunkL d l.sides c))[i]? = some e ∧ ((a - x.lo) / y = 0 → e = x.lo) := by
  have hg := ChkG.of_chunk hc
  have hn := chunkL_get hx hy ha
  obtain ⟨z, hz⟩ := at_lt (l := l.over) (i := i) (by rw [hg.lo]; exact lt_at hx)
  have h0 : (List.replicate l.over.length (0 : Int))[i]? = some 0 := by rw [List.getElem?_replicate, if_pos (lt_at hz)]
  refine ⟨_, wLo_get hx hy h0 hn, fun h => ?_⟩
  rw [h, Int.zero_mul]
  omega
/-- the two results of Core and Wide -/
theorem widE_of {d : List DimT} {l : LayT} {c : List Int} (h : layoutE d l = 0) (hl : c.length = d.length) (b : Bool) : widE d l c b = if okC d l.sides c = true then 0 else 3 := by
  have hg := layout_good h
  have ho : (overQ l b).length = d.length := by unfold overQ; split; exact hg.over; rw [List.length_replicate]; exact hg.over
  unfold widE
  rw [if_neg (fun h' => h' h), if_neg (fun h' => h' hl), widR_eq _ _ _ _ _ _ hg.sides ho hl]
  split <;> rfl
theorem widQ_of {d : List DimT} {l : LayT} {c : List Int} (h : layoutE d l = 0) (hl : c.length = d.length) (b : Bool) (hok : okC d l.sides c = true) : widQ d l c b = (wLo d l.sides (overQ l b) c, wHi d l.sides (overQ l b) c) := by
  have hg := layout_good h
  have ho : (overQ l b).length = d.length := by unfold overQ; split; exact hg.over; rw [List.length_replicate]; exact hg.over
  unfold widQ
  rw [if_neg (fun h' => h' h), if_neg (fun h' => h' hl), widR_eq _ _ _ _ _ _ hg.sides ho hl, if_pos hok]
  rfl
theorem okC_bounds {d : List DimT} {l : LayT} {c : List Int} (hc : chunkE d l c = 0) {i : Nat} {x : DimT} {y a : Int} (hx : d[i]? = some x) (hy : l.sides[i]? = some y) (ha : c[i]? = some a) :
    (∀ n ∈ chunkL d l.sides c, 0 ≤ n ∧ n ≤ 2147483648) ∧ ∀ n ∈ (chunkL d l.sides c).set i ((a - x.lo) / y + 1), -9223372036854775808 ≤ n ∧ n ≤ 9223372036854775807 := by
  have hg := ChkG.of_chunk hc
  have hl := chunkL_length hg.ls hg.lc
  have K : ∀ n ∈ chunkL d l.sides c, 0 ≤ n ∧ n ≤ 2147483648 := fun n hn => by
    obtain ⟨j, hj, rfl⟩ := List.getElem_of_mem hn
    obtain ⟨x', hx'⟩ := at_lt (l := d) (i := j) (by omega)
    obtain ⟨y', hy'⟩ := at_lt (l := l.sides) (i := j) (by rw [hg.ls]; omega)
    obtain ⟨z', hz'⟩ := at_lt (l := l.over) (i := j) (by rw [hg.lo]; omega)
    obtain ⟨a', ha'⟩ := at_lt (l := c) (i := j) (by rw [hg.lc]; omega)
    have e := (List.getElem?_eq_getElem hj).symm.trans (chunkL_get hx' hy' ha')
    injection e with e
    have f := hg.num hx' hy' hz' ha'
    have := f.n0
    have := f.nQ
    have := f.big
    omega
  refine ⟨K, fun n hn => ?_⟩
  rcases List.mem_or_eq_of_mem_set hn with h | rfl
  · have := K n h
    omega
  · have := K _ (List.mem_of_getElem? (chunkL_get hx hy ha))
    omega
end Go.Proofs.YtpdhlgkcjakcgaaGreatDoor
