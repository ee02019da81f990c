/- Lemmas and contracts, each under its own condition: The reference of layer 2, contracts: tile, order, Layout. The reference of layer 2, contract: Chunk. A drawn region of reads and calls whose last steps are: a list of one element is built, appended to the second list of a box, and stored. The reference of layer 2, contract: Core. -/
import Derived.IntWalk
import Derived.BigQuiet
import Derived.Deep.AppendLies
import Derived.Deep.DeepCutAuto
import Derived.Deep.CutBlock
import Derived.Test.YtpdhlgkcjakcgaaGreatDoorS11
import Derived.Test.YtpdhlgkcjakcgaaGreatDoorS13
import Derived.Test.YtpdhlgkcjakcgaaGreatDoorS18
import Derived.Test.YtpdhlgkcjakcgaaGreatDoorS6
import Derived.Test.YtpdhlgkcjakcgaaGreatDoorS9
/- The reference of layer 2, contracts: tile, order, Layout. -/
namespace Go.Proofs.YtpdhlgkcjakcgaaGreatDoor
open Go.RowKit

def tileB (order tile : Int) : Bool := if order = 3 then decide (1 ≤ tile) && decide (tile ≤ 64) else decide (tile = 0)
theorem orderedB_eq (order tile : Int) : orderedB order tile = (decide (1 ≤ order) && decide (order ≤ 3) && tileB order tile) := by
  unfold orderedB tileB
  have hc : order < 1 ∨ order = 1 ∨ order = 2 ∨ order = 3 ∨ 3 < order := by omega
  rcases hc with h | rfl | rfl | rfl | h
  · rw [if_neg (by omega), if_neg (by omega), decide_eq_false (by omega : ¬ 1 ≤ order)]; rfl
  · simp
  · simp
  · simp
  · rw [if_neg (by omega), if_neg (by omega), decide_eq_false (by omega : ¬ order ≤ 3), Bool.and_false, Bool.false_and]
theorem rtile_core (vs vo : Value) (o t f c : Int) (w : World) (h1 : ∃ a n k, vs = .slice a n k) (h2 : ∃ a n k, vo = .slice a n k) :
    Calls Tryz.prog 133 #[.agg #[vs, vo, .int .i64 o, .int .i64 t, .int .i64 f, .int .i64 c]] w (RetV' (.bool (tileB o t)) w) := by
  obtain ⟨a1, n1, k1, rfl⟩ := h1
  obtain ⟨a2, n2, k2, rfl⟩ := h2
  unfold tileB
  by_cases h3 : o = 3
  · subst h3
    rw [if_pos rfl]
    by_cases h4 : 1 ≤ t
    · rw [decide_eq_true h4, Bool.true_and]
      have t1 : decide (1 ≤ t) = true := decide_eq_true h4
      clear h4
      go_enter Tryz.func133, Tryz.ntmps133
      go_wp2
      go_ret
      exact ⟨rfl, below_alloc _ _⟩
    · rw [decide_eq_false h4, Bool.false_and]
      have t1 : decide (1 ≤ t) = false := decide_eq_false h4
      clear h4
      go_enter Tryz.func133, Tryz.ntmps133
      go_wp2
      go_ret
      exact ⟨rfl, below_alloc _ _⟩
  · rw [if_neg h3]
    have t1 : (o == 3) = false := beq_eq_false_iff_ne.2 h3
    have e : decide (t = 0) = (t == 0) := rfl
    rw [e]
    clear h3 e
    go_enter Tryz.func133, Tryz.ntmps133
    go_wp2
    go_ret
    exact ⟨rfl, below_alloc _ _⟩
theorem rorder_core (vs vo : Value) (o t f c : Int) (w : World) (h1 : ∃ a n k, vs = .slice a n k) (h2 : ∃ a n k, vo = .slice a n k) :
    Calls Tryz.prog 81 #[.agg #[vs, vo, .int .i64 o, .int .i64 t, .int .i64 f, .int .i64 c]] w (RetV' (.bool (orderedB o t)) w) := by
  have C := Lib.hid (fun w1 => rtile_core vs vo o t f c w1 h1 h2)
  rw [orderedB_eq]
  obtain ⟨a1, n1, k1, rfl⟩ := h1
  obtain ⟨a2, n2, k2, rfl⟩ := h2
  generalize tileB o t = B at C ⊢
  by_cases h3 : 1 ≤ o
  · rw [decide_eq_true h3, Bool.true_and]
    have t1 : decide (1 ≤ o) = true := decide_eq_true h3
    by_cases h4 : o ≤ 3
    · rw [decide_eq_true h4, Bool.true_and]
      have t2 : decide (o ≤ 3) = true := decide_eq_true h4
      clear h3 h4
      go_enter Tryz.func81, Tryz.ntmps81
      go_wp2_with fail
      refine (C.out _).mono ?_
      rintro e w1 ⟨rfl, hb⟩
      have HB := Lib.hid (below_keep (below_alloc w _) hb)
      clear hb C
      go_wp2
      go_ret
      exact ⟨rfl, HB.out⟩
    · rw [decide_eq_false h4, Bool.false_and]
      have t2 : decide (o ≤ 3) = false := decide_eq_false h4
      clear h3 h4
      go_enter Tryz.func81, Tryz.ntmps81
      go_wp2
      go_ret
      exact ⟨rfl, below_alloc _ _⟩
  · rw [decide_eq_false h3, Bool.false_and, Bool.false_and]
    have t1 : decide (1 ≤ o) = false := decide_eq_false h3
    clear h3
    go_enter Tryz.func81, Tryz.ntmps81
    go_wp2
    go_ret
    exact ⟨rfl, below_alloc _ _⟩
theorem rordered_any (vs vo : Value) (l : LayT) (w : World) (h : LayR w vs vo l) : Calls Tryz.prog 81 #[layV vs vo l] w (RetV' (.bool (orderedB l.order l.tile)) w) := by
  obtain ⟨a, c, e, -⟩ := h.sides.shape
  obtain ⟨a', c', e', -⟩ := h.over.shape
  exact rorder_core vs vo _ _ _ _ w ⟨_, _, _, e⟩ ⟨_, _, _, e'⟩

def okS : List Int → List Int → Bool
  | s :: ss, o :: os => if s < 1 ∨ 64 < s ∨ o < 0 ∨ s < o ∨ 16 < o then false else okS ss os
  | _, _ => true
def prodS : Int → List Int → List Int → Int
  | n, s :: ss, o :: os => prodS (n * (s + 2 * o)) ss os
  | n, _, _ => n
theorem sidesL_eq : ∀ (n : Int) (s o : List Int), sidesL n s o = if okS s o = true then some (prodS n s o) else none
  | n, [], o => by simp [sidesL, okS, prodS]
  | n, s :: ss, [] => by simp [sidesL, okS, prodS]
  | n, s :: ss, o :: os => by
    rw [sidesL, okS, prodS]
    split
    · simp
    · exact sidesL_eq _ ss os
theorem okS_drop {s o : List Int} {i : Nat} {x y : Int} (hx : s[i]? = some x) (hy : o[i]? = some y) : okS (s.drop i) (o.drop i) = if x < 1 ∨ 64 < x ∨ y < 0 ∨ x < y ∨ 16 < y then false else okS (s.drop (i + 1)) (o.drop (i + 1)) := by
  rw [drop_cons hx, drop_cons hy, okS]
theorem prodS_drop {n : Int} {s o : List Int} {i : Nat} {x y : Int} (hx : s[i]? = some x) (hy : o[i]? = some y) : prodS n (s.drop i) (o.drop i) = prodS (n * (x + 2 * y)) (s.drop (i + 1)) (o.drop (i + 1)) := by
  rw [drop_cons hx, drop_cons hy, prodS]
theorem okS_at : ∀ {s o : List Int}, okS s o = true → ∀ (i : Nat) (x y : Int), s[i]? = some x → o[i]? = some y → 1 ≤ x ∧ x ≤ 64 ∧ 0 ≤ y ∧ y ≤ x ∧ y ≤ 16
  | [], _, _, i, x, y, hx, _ => by simp at hx
  | _ :: _, [], _, i, x, y, _, hy => by simp at hy
  | s :: ss, o :: os, h, i, x, y, hx, hy => by
    rw [okS] at h
    split at h
    · cases h
    · rename_i hg
      cases i with
      | zero => simp at hx hy; subst hx hy; omega
      | succ i => exact okS_at h i x y (by simpa using hx) (by simpa using hy)
theorem rlayout_bad (d : List DimT) (l : LayT) (vd vs vo : Value) (w : World) (hd : Dims w vd d) (hl : LayR w vs vo l) (hs : StrD d) (h : dimsE d ≠ 0) :
    Calls Tryz.prog 25 #[vd, layV vs vo l] w (RetV' (.int .i64 (dimsE d)) w) := by
  have C := Lib.hid (fun w1 (hb : Below w.heap.size w w1) => rdims_any d vd w1 (hd.later DimR.lasts hb) hs)
  obtain ⟨p1, cap1, rfl, c1, c1'⟩ := hd.shape
  obtain ⟨p2, cap2, rfl, c2, c2'⟩ := hl.sides.shape
  obtain ⟨p3, cap3, rfl, c3, c3'⟩ := hl.over.shape
  obtain ⟨ss, oo, o, t, f, c⟩ := l
  have hne : (dimsE d != 0) = true := by rw [bne_iff_ne]; exact h
  generalize dimsE d = r at *
  clear hd hl hs h
  go_enter Tryz.func25, Tryz.ntmps25
  go_wp2_with fail
  refine (C.out _ (below_alloc _ _)).mono ?_
  rintro e w1 ⟨rfl, hb⟩
  have HB := Lib.hid (below_keep (below_alloc _ _) hb)
  clear hb C
  go_wp2
  go_ret
  exact ⟨rfl, HB.out⟩
theorem rlayout_shape (d : List DimT) (l : LayT) (vd vs vo : Value) (w : World) (hd : Dims w vd d) (hl : LayR w vs vo l) (hs : StrD d) (h : dimsE d = 0) (h2 : l.sides.length ≠ d.length ∨ l.over.length ≠ d.length) :
    Calls Tryz.prog 25 #[vd, layV vs vo l] w (RetV' (.int .i64 13) w) := by
  have C := Lib.hid (fun w1 (hb : Below w.heap.size w w1) => h ▸ rdims_any d vd w1 (hd.later DimR.lasts hb) hs)
  obtain ⟨p1, cap1, rfl, c1, c1'⟩ := hd.shape
  obtain ⟨p2, cap2, rfl, c2, c2'⟩ := hl.sides.shape
  obtain ⟨p3, cap3, rfl, c3, c3'⟩ := hl.over.shape
  have HBX := Lib.hid (LayB.made w (.slice p2 l.sides.length cap2) (.slice p3 l.over.length cap3) l 40)
  obtain ⟨ss, oo, o, t, f, c⟩ := l
  simp only at HBX h2
  clear hd hl hs h
  by_cases h3 : ss.length = d.length
  · have t1 : ((ss.length : Int) != d.length) = false := by rw [bne_eq_false_iff_eq]; omega
    have t2 : ((oo.length : Int) != d.length) = true := by rw [bne_iff_ne]; rcases h2 with h | h <;> omega
    clear h2 h3
    go_enter Tryz.func25, Tryz.ntmps25
    go_wp2_with fail
    refine (C.out _ (below_alloc _ _)).mono ?_
    rintro e w1 ⟨rfl, hb⟩
    have HB := Lib.hid (below_keep (below_alloc _ _) hb)
    obtain ⟨b0, b1, -⟩ := HBX.out w1 (by simpa using hb)
    clear hb C HBX
    go_wp2
    go_ret
    exact ⟨rfl, HB.out⟩
  · have t1 : ((ss.length : Int) != d.length) = true := by rw [bne_iff_ne]; omega
    clear h2 h3
    go_enter Tryz.func25, Tryz.ntmps25
    go_wp2_with fail
    refine (C.out _ (below_alloc _ _)).mono ?_
    rintro e w1 ⟨rfl, hb⟩
    have HB := Lib.hid (below_keep (below_alloc _ _) hb)
    obtain ⟨b0, b1, -⟩ := HBX.out w1 (by simpa using hb)
    clear hb C HBX
    go_wp2
    go_ret
    exact ⟨rfl, HB.out⟩
set_option maxHeartbeats 6400000 in
set_option maxRecDepth 100000 in
theorem rlayout_core (d : List DimT) (l : LayT) (vd vs vo : Value) (w : World) (hd : Dims w vd d) (hl : LayR w vs vo l) (hs : StrD d) (h : dimsE d = 0) (h2 : l.sides.length = d.length) (h3 : l.over.length = d.length) (h4 : d.length ≤ 4) :
    Calls Tryz.prog 25 #[vd, layV vs vo l] w (RetV' (.int .i64 (layF l (sidesL 1 l.sides l.over))) w) := by
  have C := Lib.hid (fun w1 (hb : Below w.heap.size w w1) => h ▸ rdims_any d vd w1 (hd.later DimR.lasts hb) hs)
  have CO := Lib.hid (fun w1 (hb : Below w.heap.size w w1) => rordered_any vs vo l w1 (hl.later hb))
  have HLR := Lib.hid hl
  have HL2 := Lib.hid h2
  have HL3 := Lib.hid h3
  obtain ⟨p1, cap1, rfl, c1, c1'⟩ := hd.shape
  obtain ⟨p2, cap2, rfl, c2, c2'⟩ := hl.sides.shape
  obtain ⟨p3, cap3, rfl, c3, c3'⟩ := hl.over.shape
  have HBX := Lib.hid (LayB.made w (.slice p2 l.sides.length cap2) (.slice p3 l.over.length cap3) l 40)
  obtain ⟨R, hR⟩ : ∃ R : Int, R = layF l (sidesL 1 l.sides l.over) := ⟨_, rfl⟩
  rw [← hR]
  rw [sidesL_eq] at hR
  have HR := Lib.hid hR
  simp only [h2, h3] at c2 c3 HBX CO HLR ⊢
  obtain ⟨ss, oo, o, t, f, c⟩ := l
  simp only at HBX CO HLR HL2 HL3 HR ⊢
  clear hd hl hs h h2 h3 hR
  go_enter Tryz.func25, Tryz.ntmps25
  go_wp2_with fail
  refine (C.out _ (below_alloc _ _)).mono ?_
  rintro e w1 ⟨rfl, hb⟩
  have HB := Lib.hid (below_keep (below_alloc _ _) hb)
  have HBX1 := Lib.hid (fun w' (h' : Below w1.heap.size w1 w') => HBX.out w' (by simpa using below_keep hb h'))
  obtain ⟨b0, b1, -⟩ := HBX1.out w1 (Below.refl _ _)
  clear hb C HBX
  go_wp2
  clear b0 b1
  go_loopw [6] (fun iv wr => ∃ i : Nat, i ≤ d.length ∧ iv = .int .i64 (i : Nat) ∧ Hid (okS (ss.drop i) (oo.drop i) = okS ss oo) ∧ Below w1.heap.size w1 wr) (fun iv _ => d.length - (intOf iv).toNat)
  case atStart => exact ⟨0, Nat.zero_le _, rfl, rfl, Below.refl _ _⟩
  case round =>
    obtain ⟨i, hi, rfl, HN, hbr⟩ := hrel
    have HBR := Lib.hid hbr
    have HBW := Lib.hid (below_keep HB.out hbr)
    obtain ⟨b0, b1, b2, b3, b4, b5⟩ := HBX1.out wr hbr
    simp only at b2 b3 b4 b5
    clear hbr
    by_cases hlt : i < d.length
    · obtain ⟨g, o', x, ea, hx, hr⟩ := (HLR.out.sides.later IntR.lasts HBW.out).at i (by simp only; rw [HL2.out]; exact hlt)
      obtain ⟨g', o'', y, ea', hy, hr'⟩ := (HLR.out.over.later IntR.lasts HBW.out).at i (by simp only; rw [HL3.out]; exact hlt)
      subst ea ea'
      rw [Nat.mul_one] at hr hr'
      unfold IntR at hr hr'
      have hn := HN.out
      simp only at hx hy
      rw [okS_drop hx hy] at hn
      have HI1 : Hid (i + 1 ≤ d.length) := hlt
      have HI2 : Hid (d.length - (i + 1) < d.length - i) := by show _ < _; omega
      have ib0 : (0 : Int) ≤ (i : Int) := by omega
      have ib1 : (i : Int) < (d.length : Int) := by omega
      by_cases hbad : x < 1 ∨ 64 < x ∨ y < 0 ∨ x < y ∨ 16 < y
      · rw [if_pos hbad] at hn
        have HRR : Hid (R = 3) := by show _ = _; rw [HR.out, ← hn, if_neg (by decide)]; rfl
        have hcase : x < 1 ∨ (¬ x < 1 ∧ 64 < x) ∨ (¬ x < 1 ∧ ¬ 64 < x ∧ y < 0) ∨ (¬ x < 1 ∧ ¬ 64 < x ∧ ¬ y < 0 ∧ 16 < y) ∨ (¬ x < 1 ∧ ¬ 64 < x ∧ ¬ y < 0 ∧ ¬ 16 < y ∧ x < y) := by omega
        clear hbad hn hx hy HN
        rcases hcase with q1 | ⟨q1, q2⟩ | ⟨q1, q2, q3⟩ | ⟨q1, q2, q3, q4⟩ | ⟨q1, q2, q3, q4, q5⟩
        · have t1 : decide (x < 1) = true := decide_eq_true q1
          clear q1
          go_wp2_with fail
          go_quiet (fail)
          go_wp2
          go_ret
          rw [HRR.out]
          exact ⟨rfl, below_keep HBW.out (below_drewN' _ _)⟩
        · have t1 : decide (x < 1) = false := decide_eq_false q1
          have t2 : decide (64 < x) = true := decide_eq_true q2
          clear q1 q2
          go_wp2_with fail
          go_quiet (fail)
          go_wp2
          go_ret
          rw [HRR.out]
          exact ⟨rfl, below_keep HBW.out (below_drewN' _ _)⟩
        · have t1 : decide (x < 1) = false := decide_eq_false q1
          have t2 : decide (64 < x) = false := decide_eq_false q2
          have t3 : decide (y < 0) = true := decide_eq_true q3
          clear q1 q2 q3
          go_wp2_with fail
          go_quiet (fail)
          go_wp2
          go_ret
          rw [HRR.out]
          exact ⟨rfl, below_keep HBW.out (below_drewN' _ _)⟩
        · have t1 : decide (x < 1) = false := decide_eq_false q1
          have t2 : decide (64 < x) = false := decide_eq_false q2
          have t3 : decide (y < 0) = false := decide_eq_false q3
          have t4 : decide (16 < y) = true := decide_eq_true q4
          clear q1 q2 q3 q4
          go_wp2_with fail
          go_quiet (fail)
          go_wp2
          go_ret
          rw [HRR.out]
          exact ⟨rfl, below_keep HBW.out (below_drewN' _ _)⟩
        · have t1 : decide (x < 1) = false := decide_eq_false q1
          have t2 : decide (64 < x) = false := decide_eq_false q2
          have t3 : decide (y < 0) = false := decide_eq_false q3
          have t4 : decide (16 < y) = false := decide_eq_false q4
          have t5 : decide (x < y) = true := decide_eq_true q5
          clear q1 q2 q3 q4
          go_wp2_with fail
          go_quiet (fail)
          go_wp2
          go_ret
          rw [HRR.out]
          exact ⟨rfl, below_keep HBW.out (below_drewN' _ _)⟩
      · rw [if_neg hbad] at hn
        have q1 : ¬ x < 1 := by omega
        have q2 : ¬ 64 < x := by omega
        have q3 : ¬ y < 0 := by omega
        have q4 : ¬ 16 < y := by omega
        have q5 : ¬ x < y := by omega
        have t1 : decide (x < 1) = false := decide_eq_false q1
        have t2 : decide (64 < x) = false := decide_eq_false q2
        have t3 : decide (y < 0) = false := decide_eq_false q3
        have t4 : decide (16 < y) = false := decide_eq_false q4
        have t5 : decide (x < y) = false := decide_eq_false q5
        have HNN := Lib.hid hn
        clear hbad hn hx hy HN q1 q2 q3 q4
        go_wp2_with fail
        go_quiet (fail)
        go_wp2
        exact ⟨⟨i + 1, HI1.out, by go_num, HNN.out, below_keep HBR.out (below_drewN' _ _)⟩, HI2.out⟩
    · obtain rfl : i = d.length := by omega
      have hok : okS ss oo = true := by
        have hn := HN.out
        have e1 : ss.length = d.length := HL2.out
        rw [← e1, List.drop_length] at hn
        rw [← hn]; rfl
      have HOK := Lib.hid hok
      have HR1 : Hid (R = layF ⟨ss, oo, o, t, f, c⟩ (some (prodS 1 ss oo))) := by show _ = _; rw [HR.out, if_pos hok]
      obtain ⟨W2, hW2⟩ : ∃ W2, W2 = wr := ⟨_, rfl⟩
      rw [← hW2] at HBR HBW ⊢
      clear hok HN b0 b1 b2 b3 b4 b5 hW2
      go_wp2
      go_loopw [7, 8] (fun nv iv wr => ∃ (i : Nat) (n : Int), i ≤ d.length ∧ iv = .int .i64 (i : Nat) ∧ nv = .int .i64 n ∧ Hid (prodS n (ss.drop i) (oo.drop i) = prodS 1 ss oo) ∧ Hid (0 ≤ n ∧ n ≤ B96 i) ∧ Below w1.heap.size w1 wr) (fun _ iv _ => d.length - (intOf iv).toNat)
      case atStart => exact ⟨0, 1, Nat.zero_le _, rfl, rfl, rfl, ⟨by omega, by unfold B96; decide⟩, HBR.out⟩
      case round =>
        obtain ⟨i, n, hi, rfl, rfl, HN, HNB, hbr⟩ := hrel
        have HBR2 := Lib.hid hbr
        have HBW2 := Lib.hid (below_keep HB.out hbr)
        obtain ⟨b0, b1, b2, b3, b4, b5⟩ := HBX1.out wr hbr
        simp only at b2 b3 b4 b5
        clear hbr
        by_cases hlt : i < d.length
        · obtain ⟨g, o', x, ea, hx, hr⟩ := (HLR.out.sides.later IntR.lasts HBW2.out).at i (by simp only; rw [HL2.out]; exact hlt)
          obtain ⟨g', o'', y, ea', hy, hr'⟩ := (HLR.out.over.later IntR.lasts HBW2.out).at i (by simp only; rw [HL3.out]; exact hlt)
          subst ea ea'
          rw [Nat.mul_one] at hr hr'
          unfold IntR at hr hr'
          have hn := HN.out
          simp only at hx hy
          rw [prodS_drop hx hy] at hn
          have HNN := Lib.hid hn
          have hgd := okS_at HOK.out i x y hx hy
          have hst := B96_step HNB.out.1 HNB.out.2 (t := x + 2 * y) (by omega) (by omega)
          have HST := Lib.hid hst
          have htop := B96_top (i := i + 1) (by omega)
          have m0 : 0 ≤ n * (x + 2 * y) := hst.1
          have m1 : n * (x + 2 * y) ≤ 84934656 := Int.le_trans hst.2 htop
          have HI1 : Hid (i + 1 ≤ d.length) := hlt
          have HI2 : Hid (d.length - (i + 1) < d.length - i) := by show _ < _; omega
          have ib0 : (0 : Int) ≤ (i : Int) := by omega
          have ib1 : (i : Int) < (d.length : Int) := by omega
          have w0 : IntKind.i64.wrap (2 * y) = 2 * y := IntWalk.i64_in _ (by omega)
          have w1' : IntKind.i64.wrap (x + 2 * y) = x + 2 * y := IntWalk.i64_in _ (by omega)
          have w2' : IntKind.i64.wrap (n * (x + 2 * y)) = n * (x + 2 * y) := IntWalk.i64_in _ (by omega)
          clear hn hx hy hst htop hgd HN
          go_wp2_with fail
          go_quiet (fail)
          clear w0 w1' w2'
          go_wp2
          exact ⟨⟨i + 1, _, HI1.out, by go_num, rfl, HNN.out, HST.out, below_keep HBR2.out (below_drewN' _ _)⟩, HI2.out⟩
        · obtain rfl : i = d.length := by omega
          have h0 : prodS n (List.drop d.length ss) (List.drop d.length oo) = n := by
            have e1 : ss.length = d.length := HL2.out
            rw [← e1, List.drop_length]; rfl
          have hn := HN.out
          rw [h0] at hn
          have HRF : Hid (R = if 4096 < n then 9 else if orderedB o t = false ∨ f < 1 ∨ 3 < f ∨ c < 1 ∨ 3 < c then 2 else 0) := by show _ = _; rw [HR1.out, ← hn]; rfl
          have HOR := Lib.hid (CO.out wr HBW2.out)
          clear h0 hn HN
          by_cases hm : 4096 < n
          · have HRR : Hid (R = 9) := by show _ = _; rw [HRF.out, if_pos hm]
            go_wp2
            go_ret
            rw [HRR.out]
            exact ⟨rfl, HBW2.out⟩
          · generalize orderedB o t = bo at HOR HRF
            have HRR : Hid (R = if bo = false ∨ f < 1 ∨ 3 < f ∨ c < 1 ∨ 3 < c then 2 else 0) := by show _ = _; rw [HRF.out, if_neg hm]
            clear HRF
            go_wp2_with fail
            refine HOR.out.mono ?_
            rintro e w3 ⟨rfl, hb2⟩
            have HB2 := Lib.hid (below_keep HBW2.out hb2)
            clear b0 b1 b2 b3 b4 b5
            obtain ⟨-, -, -, -, b4, b5⟩ := HBX1.out w3 (below_keep HBR2.out hb2)
            simp only at b4 b5
            clear hb2 HOR
            cases bo with
            | false =>
              have HR2 : Hid (R = 2) := by show _ = _; rw [HRR.out, if_pos (.inl rfl)]
              go_wp2
              go_ret
              rw [HR2.out]
              exact ⟨rfl, HB2.out⟩
            | true =>
              by_cases hbad : f < 1 ∨ 3 < f ∨ c < 1 ∨ 3 < c
              · have HR2 : Hid (R = 2) := by show _ = _; rw [HRR.out, if_pos (.inr hbad)]
                have hcase : f < 1 ∨ (¬ f < 1 ∧ 3 < f) ∨ (¬ f < 1 ∧ ¬ 3 < f ∧ c < 1) ∨ (¬ f < 1 ∧ ¬ 3 < f ∧ ¬ c < 1 ∧ 3 < c) := by omega
                clear hbad
                rcases hcase with q | ⟨q, q'⟩ | ⟨q, q', q''⟩ | ⟨q, q', q'', q3⟩
                all_goals
                  go_wp2
                  go_ret
                  rw [HR2.out]
                  exact ⟨rfl, HB2.out⟩
              · have HR2 : Hid (R = 0) := by show _ = _; rw [HRR.out, if_neg (by simp; omega)]
                have q1 : ¬ f < 1 := by omega
                have q2 : ¬ 3 < f := by omega
                have q3 : ¬ c < 1 := by omega
                have q4 : ¬ 3 < c := by omega
                clear hbad
                go_wp2
                go_ret
                rw [HR2.out]
                exact ⟨rfl, HB2.out⟩
theorem rlayout_any (d : List DimT) (l : LayT) (vd vs vo : Value) (w : World) (hd : Dims w vd d) (hl : LayR w vs vo l) (hs : StrD d) :
    Calls Tryz.prog 25 #[vd, layV vs vo l] w (RetV' (.int .i64 (layoutE d l)) w) := by
  have e : layoutE d l = if dimsE d ≠ 0 then dimsE d else if l.sides.length ≠ d.length ∨ l.over.length ≠ d.length then 13 else layF l (sidesL 1 l.sides l.over) := by
    unfold layoutE layF
    rfl
  rw [e]
  by_cases h : dimsE d = 0
  · rw [if_neg (not_not_intro h)]
    by_cases h2 : l.sides.length ≠ d.length ∨ l.over.length ≠ d.length
    · rw [if_pos h2]
      exact rlayout_shape d l vd vs vo w hd hl hs h h2
    · rw [if_neg h2]
      exact rlayout_core d l vd vs vo w hd hl hs h (by omega) (by omega) (dims_good h).2.1
  · rw [if_pos h]
    exact rlayout_bad d l vd vs vo w hd hl hs h
end Go.Proofs.YtpdhlgkcjakcgaaGreatDoor
/- The reference of layer 2, contract: Chunk. -/
namespace Go.Proofs.YtpdhlgkcjakcgaaGreatDoor
open Go.RowKit
attribute [local go_sem] Oper.semAt_some


theorem rchunk_bad (d : List DimT) (l : LayT) (c : List Int) (vd vs vo vc : Value) (w : World) (hd : Dims w vd d) (hl : LayR w vs vo l) (hc : Ints w vc c) (hs : StrD d) (h : layoutE d l ≠ 0) :
    Calls Tryz.prog 27 #[vd, layV vs vo l, vc] w (RetIs [] (layoutE d l) w) := by
  have C := Lib.hid (fun w1 (hb : Below w.heap.size w w1) => rlayout_any d l vd vs vo w1 (hd.later DimR.lasts hb) (hl.later hb) hs)
  obtain ⟨p1, cap1, rfl, -⟩ := hd.shape
  obtain ⟨p2, cap2, rfl, -⟩ := hl.sides.shape
  obtain ⟨p3, cap3, rfl, -⟩ := hl.over.shape
  obtain ⟨p4, cap4, rfl, -⟩ := hc.shape
  have hne : (layoutE d l != 0) = true := by rw [bne_iff_ne]; exact h
  obtain ⟨ss, oo, o, t, f, c'⟩ := l
  generalize layoutE d _ = r at *
  clear hd hl hs h hc
  go_enter Tryz.func27, Tryz.ntmps27
  go_wp2_with fail
  refine (C.out _ (below_alloc _ _)).mono ?_
  rintro e w1 ⟨rfl, hb⟩
  have HB := Lib.hid (below_keep (below_alloc _ _) hb)
  clear hb C
  go_wp2
  go_ret2
  exact ⟨_, rfl, IntsO.nil _, HB.out⟩
theorem rchunk_shape (d : List DimT) (l : LayT) (c : List Int) (vd vs vo vc : Value) (w : World) (hd : Dims w vd d) (hl : LayR w vs vo l) (hc : Ints w vc c) (hs : StrD d) (h : layoutE d l = 0) (h2 : c.length ≠ d.length) :
    Calls Tryz.prog 27 #[vd, layV vs vo l, vc] w (RetIs [] 13 w) := by
  have C := Lib.hid (fun w1 (hb : Below w.heap.size w w1) => rlayout_any d l vd vs vo w1 (hd.later DimR.lasts hb) (hl.later hb) hs)
  rw [h] at C
  obtain ⟨p1, cap1, rfl, -⟩ := hd.shape
  obtain ⟨p2, cap2, rfl, -⟩ := hl.sides.shape
  obtain ⟨p3, cap3, rfl, -⟩ := hl.over.shape
  obtain ⟨p4, cap4, rfl, -⟩ := hc.shape
  have h3 : ¬ ((c.length : Int) = d.length) := by omega
  obtain ⟨ss, oo, o, t, f, c'⟩ := l
  clear hd hl hs h hc h2
  go_enter Tryz.func27, Tryz.ntmps27
  go_wp2_with fail
  refine (C.out _ (below_alloc _ _)).mono ?_
  rintro e w1 ⟨rfl, hb⟩
  have HB := Lib.hid (below_keep (below_alloc _ _) hb)
  clear hb C
  go_wp2
  go_ret2
  exact ⟨_, rfl, IntsO.nil _, HB.out⟩
theorem rchunk_range (d : List DimT) (l : LayT) (c : List Int) (vd vs vo vc : Value) (w : World) (hd : Dims w vd d) (hl : LayR w vs vo l) (hc : Ints w vc c) (hs : StrD d) (h : layoutE d l = 0) (h2 : c.length = d.length) (h3 : ofL d c = false) :
    Calls Tryz.prog 27 #[vd, layV vs vo l, vc] w (RetIs [] 3 w) := by
  have C := Lib.hid (fun w1 (hb : Below w.heap.size w w1) => rlayout_any d l vd vs vo w1 (hd.later DimR.lasts hb) (hl.later hb) hs)
  have CO := Lib.hid (fun w1 (hb : Below w.heap.size w w1) => rof_any d c vd vc w1 (hd.later DimR.lasts hb) (hc.later IntR.lasts hb))
  rw [h] at C
  rw [show ofB d c = false from by unfold ofB; rw [h3, Bool.and_false]] at CO
  obtain ⟨p1, cap1, rfl, -⟩ := hd.shape
  obtain ⟨p2, cap2, rfl, -⟩ := hl.sides.shape
  obtain ⟨p3, cap3, rfl, -⟩ := hl.over.shape
  obtain ⟨p4, cap4, rfl, -⟩ := hc.shape
  obtain ⟨ss, oo, o, t, f, c'⟩ := l
  simp only [h2] at CO ⊢
  clear hd hl hs h hc h2 h3
  go_enter Tryz.func27, Tryz.ntmps27
  go_wp2_with fail
  refine (C.out _ (below_alloc _ _)).mono ?_
  rintro e w1 ⟨rfl, hb⟩
  have HB := Lib.hid (below_keep (below_alloc _ _) hb)
  clear hb C
  go_wp2_with fail
  refine (CO.out _ HB.out).mono ?_
  rintro e w2 ⟨rfl, hb⟩
  have HB2 := Lib.hid (below_keep HB.out hb)
  clear hb CO
  go_wp2
  go_ret2
  exact ⟨_, rfl, IntsO.nil _, HB2.out⟩


set_option maxHeartbeats 6400000 in
set_option maxRecDepth 100000 in
theorem rchunk_core (d : List DimT) (l : LayT) (c : List Int) (vd vs vo vc : Value) (w : World) (hd : Dims w vd d) (hl : LayR w vs vo l) (hc : Ints w vc c) (hs : StrD d) (h : layoutE d l = 0) (h2 : c.length = d.length) (h3 : ofL d c = true) :
    Calls Tryz.prog 27 #[vd, layV vs vo l, vc] w (RetIs (chunkL d l.sides c) 0 w) := by
  have C := Lib.hid (fun w1 (hb : Below w.heap.size w w1) => rlayout_any d l vd vs vo w1 (hd.later DimR.lasts hb) (hl.later hb) hs)
  have CO := Lib.hid (fun w1 (hb : Below w.heap.size w w1) => rof_any d c vd vc w1 (hd.later DimR.lasts hb) (hc.later IntR.lasts hb))
  have GL := Lib.hid (layout_good h)
  have GO := Lib.hid h3
  have HL2 := Lib.hid h2
  rw [h] at C
  rw [show ofB d c = true from by unfold ofB; rw [h3, decide_eq_true h2]; rfl] at CO
  have hd4 := (dims_good GL.out.dims).2.1
  have HDD := Lib.hid hd
  have HLL := Lib.hid hl
  have HCC := Lib.hid hc
  obtain ⟨i0, hi0, hz0, hz1, hz2⟩ := info_parts infoZ
  obtain ⟨p1, cap1, rfl, -⟩ := hd.shape
  obtain ⟨p2, cap2, rfl, -⟩ := hl.sides.shape
  obtain ⟨p3, cap3, rfl, -⟩ := hl.over.shape
  obtain ⟨p4, cap4, rfl, c4, c4'⟩ := hc.shape
  have HBX := Lib.hid (LayB.made w (.slice p2 l.sides.length cap2) (.slice p3 l.over.length cap3) l 40)
  have HQ := Lib.hid (chunkL_length (d := d) (s := l.sides) (c := c) GL.out.sides h2)
  obtain ⟨Q, hQ⟩ : ∃ Q, Q = chunkL d l.sides c := ⟨_, rfl⟩
  rw [← hQ] at HQ ⊢
  have HQE := Lib.hid hQ
  have e1 := GL.out.sides
  have e2 := GL.out.over
  obtain ⟨ss, oo, o, t, f, c'⟩ := l
  simp only at e1 e2 HQE
  simp only [h2, e1, e2] at CO C HBX HLL HCC c4 ⊢
  clear hd hl hs h hc h2 h3 hQ e1 e2
  go_enter Tryz.func27, Tryz.ntmps27
  go_wp2_with fail
  refine (C.out _ (below_alloc _ _)).mono ?_
  rintro e w1 ⟨rfl, hb⟩
  have HB := Lib.hid (below_keep (below_alloc _ _) hb)
  have HBX1 := Lib.hid (fun w' (h' : Below w1.heap.size w1 w') => HBX.out w' (by simpa using below_keep hb h'))
  have HS1 : Hid (w.heap.size < w1.heap.size) := by show _ < _; have := hb.size; simp at this; omega
  clear hb C HBX
  go_wp2_with fail
  refine (CO.out _ HB.out).mono ?_
  rintro e w2 ⟨rfl, hb⟩
  have HB12 := Lib.hid hb
  have HBW := Lib.hid (below_keep HB.out hb)
  clear hb CO
  go_wp2
  go_loopw [9, 10] (fun sv iv wr => ∃ i : Nat, i ≤ d.length ∧ iv = .int .i64 (i : Nat) ∧ wr.ownsRow w2.heap.size 3 1 sv i ((Q.take i).map (Value.int .i64)) ∧ Below w2.heap.size w2 wr) (fun _ iv _ => d.length - (intOf iv).toNat)
  case atStart => exact ⟨0, Nat.zero_le _, rfl, World.ownsRow_nil _ _ _ _, Below.refl _ _⟩
  case round =>
    obtain ⟨i, hi, rfl, how, hb⟩ := hrel
    have HOW := Lib.hid how
    have HBR := Lib.hid hb
    have HBA := Lib.hid (below_keep HBW.out hb)
    clear how hb
    by_cases hlt : i < d.length
    · obtain ⟨gd, od, x, ea, hx, hr⟩ := Ls.at HDD.out i hlt
      obtain ⟨gs, os, y, ea', hy, hr'⟩ := Ls.at HLL.out.sides i (by rw [GL.out.sides]; exact hlt)
      obtain ⟨gc, oc, z, ea'', hz, hr''⟩ := Ls.at HCC.out i (by rw [HL2.out]; exact hlt)
      subst ea ea' ea''
      have hr := DimR.lasts _ _ _ _ _ hr HBA.out
      have hr' := IntR.lasts _ _ _ _ _ hr' HBA.out
      have hr'' := IntR.lasts _ _ _ _ _ hr'' HBA.out
      rw [Nat.mul_one] at hr' hr''
      unfold IntR at hr' hr''
      have hrl := hr.lo
      obtain ⟨b0, -⟩ := HBX1.out wr (below_keep HB12.out HBR.out)
      obtain ⟨y', hy'⟩ : ∃ y', oo[i]? = some y' := ⟨_, List.getElem?_eq_getElem (by have := GL.out.over; simp only at this; omega)⟩
      have gsd := GL.out.good i y y' hy hy'
      have gx := (dims_good GL.out.dims).2.2 x (List.mem_of_getElem? hx)
      have gl := gx.last
      have go := ofL_good GO.out hx hz
      have hq : Q[i]? = some ((z - x.lo) / y) := by rw [HQE.out]; exact chunkL_get hx hy hz
      have HQI := Lib.hid hq
      have q1 := gsd.s1
      have q2 := gx.lo
      have q3 := gx.lo'
      have q4 := go.1
      have q5 : z ≤ 1073741824 := by omega
      have hsub : IntKind.i64.wrap (z - x.lo) = z - x.lo := IntWalk.i64_in _ (by omega)
      have hdiv : (z - x.lo).tdiv y = (z - x.lo) / y := Int.tdiv_eq_ediv_of_nonneg (by omega)
      have hd0 : 0 ≤ (z - x.lo) / y := Int.ediv_nonneg (by omega) (by omega)
      have hd1 : (z - x.lo) / y ≤ z - x.lo := Int.ediv_le_self _ (by omega)
      have hwr : IntKind.i64.wrap ((z - x.lo) / y) = (z - x.lo) / y := IntWalk.i64_in _ (by omega)
      obtain ⟨K9, hK9⟩ : ∃ K9, K9 = (z - x.lo) / y := ⟨_, rfl⟩
      rw [← hK9] at hdiv hwr HQI
      have hne : ¬ y = 0 := by omega
      have ys : y ≤ 64 := gsd.s2
      have HI1 : Hid (i + 1 ≤ d.length) := hlt
      have HI2 : Hid (d.length - (i + 1) < d.length - i) := by show _ < _; omega
      have ib0 : (0 : Int) ≤ (i : Int) := by omega
      have ib1 : (i : Int) < (d.length : Int) := by omega
      have hl9 : i ≤ 900 := by omega
      have hge : w2.heap.size ≤ wr.heap.size := HBR.out.size
      have FIN : Hid (∀ (g1 cp1 : Nat) (w3 : World) (W : World), Below wr.heap.size wr W → w3.ownsRow w2.heap.size 3 1 (.slice (some ⟨g1, 0, none⟩) (i + 1) cp1) (i + 1) ((Q.take i).map (Value.int .i64) ++ [.int .i64 K9]) → W.grownBy w3 u9.ownBlock →
          w3.ownsRow w2.heap.size 3 1 (.slice (some ⟨g1, 0, none⟩) (i + 1) cp1) (i + 1) ((Q.take (i + 1)).map (Value.int .i64)) ∧ Below w2.heap.size w2 w3) := fun g1 cp1 w3 W hbd h1 h2 => by
        refine ⟨?_, (HBR.out.trans (hbd.mono hge)).grown h2 (Nat.le_trans hge hbd.size) (fun k e => (HOW.out.lt k e).1)⟩
        rw [take_snoc' HQI.out, List.map_append]; exact h1
      have g1 : gd < wr.heap.size := World.block_lt_of_cell? _ _ hrl
      have g1' : gd ≠ wr.heap.size := Nat.ne_of_lt g1
      have g2 : gs < wr.heap.size := World.block_lt_of_cell? _ _ hr'
      have g2' : gs ≠ wr.heap.size := Nat.ne_of_lt g2
      have g3 : gc < wr.heap.size := World.block_lt_of_cell? _ _ hr''
      have g3' : gc ≠ wr.heap.size := Nat.ne_of_lt g3
      have g4 : w.heap.size < wr.heap.size := World.block_lt_of_cell? _ _ b0
      have g4' : w.heap.size ≠ wr.heap.size := Nat.ne_of_lt g4
      have how := HOW.out
      clear hx hy hz hr hy' gsd gx gl go hq hd0 hd1 hK9
      go_wp2_with fail
      go_region_law (refine step_append_lies _ (by rfl) _ _ 38 (by rfl) w2.heap.size 3 i0 (.int .i64 0) 1 8 Tryz.underlying38 hi0 hz0 hz1 hz2 rfl (by decide) u9 i ((Q.take i).map (Value.int .i64)) (by rfl) (how.alloc _) ⟨wr.heap.size, 0, none⟩ 1 1 [.int .i64 K9] (by rfl) (by rfl) (cell_one_new _ _ _) (by simp [Value.oneCell']) (by omega) (by unfold maxLen; omega) (by omega) (by simp; omega) (wr.heap.size + 1) (by simp) ?_; intro g1 cp1 w3 hown hgrow hat hlt9; have HF1 := Lib.hid (FIN.out g1 cp1 w3 _ (by first | exact (below_alloc _ _).drew | exact below_alloc _ _) hown hgrow); clear hown hgrow hat hlt9)
      all_goals
        clear hsub hdiv hwr
        go_wp2
        exact ⟨⟨i + 1, HI1.out, by go_num, HF1.out.1, HF1.out.2⟩, HI2.out⟩
    · obtain rfl : i = d.length := by omega
      have h1 := RowZ.append_owns HOW.out (by rw [List.length_take, HQ.out]; omega)
      rw [← HQ.out, List.take_length] at h1
      have H1 := Lib.hid h1
      obtain ⟨q1, k1, e1, -⟩ := h1.ints.shape
      subst e1
      clear h1
      go_wp2
      go_ret2
      exact ⟨_, rfl, H1.out, HBA.out⟩
theorem rchunk_any (d : List DimT) (l : LayT) (c : List Int) (vd vs vo vc : Value) (w : World) (hd : Dims w vd d) (hl : LayR w vs vo l) (hc : Ints w vc c) (hs : StrD d) :
    Calls Tryz.prog 27 #[vd, layV vs vo l, vc] w (RetIs (chunkQ d l c) (chunkE d l c) w) := by
  unfold chunkQ chunkE
  by_cases h : layoutE d l = 0
  · rw [if_neg (show ¬ (layoutE d l ≠ 0) from fun h' => h' h)]
    by_cases h2 : c.length ≠ d.length
    · rw [if_pos h2, if_neg (by decide)]
      exact rchunk_shape d l c vd vs vo vc w hd hl hc hs h h2
    · rw [if_neg h2]
      have h2 : c.length = d.length := by omega
      cases h3 : ofL d c with
      | false => exact rchunk_range d l c vd vs vo vc w hd hl hc hs h h2 h3
      | true => exact rchunk_core d l c vd vs vo vc w hd hl hc hs h h2 h3
  · rw [if_pos h, if_neg h]
    exact rchunk_bad d l c vd vs vo vc w hd hl hc hs h
end Go.Proofs.YtpdhlgkcjakcgaaGreatDoor
/- A drawn region of reads and calls whose last steps are: a list of one element is built, appended to the second list of a box, and stored. -/
namespace Go.Proofs.YtpdhlgkcjakcgaaGreatDoor
open Go.RowKit

theorem upd_ne {dn : Nat → Bool} {i j : Nat} (h : j ≠ i) : upd dn i j = dn j := if_neg h
theorem upd_at {dn : Nat → Bool} {i : Nat} : upd dn i i = true := if_pos rfl
theorem updV_ne {vals : Nat → Value} {v : Value} {i j : Nat} (h : j ≠ i) : updV vals i v j = vals j := if_neg h
theorem updV_at {vals : Nat → Value} {v : Value} {i : Nat} : updV vals i v i = v := if_pos rfl
/-- values that are told ahead -/
def Told (VL : List (Option Value)) (dn : Nat → Bool) (vals : Nat → Value) : Prop := ∀ (j : Nat) (v : Value), VL[j]? = some (some v) → dn j = true → vals j = v
theorem Told.step {VL : List (Option Value)} {dn : Nat → Bool} {vals : Nat → Value} (h : Told VL dn vals) {i : Nat} {v : Value} (hv : VL[i]? = some (some v) ∨ VL[i]? = some none) : Told VL (upd dn i) (updV vals i v) := by
  intro j u hj hd
  by_cases e : j = i
  · subst e
    rw [updV_at]
    rcases hv with hv | hv
    · rw [hj] at hv
      injection hv with hv
      injection hv with hv
      exact hv.symm
    · rw [hj] at hv
      injection hv with hv
      cases hv
  · rw [updV_ne e]
    rw [upd_ne e] at hd
    exact h j u hj hd
structure ApJ (VL : List (Option Value)) (jb ja js n₀ g : Nat) (W0 : World) (v1 v2 : Value) (lo hi : List Int) (M : Int) (dn : Nat → Bool) (vals : Nat → Value) (w : World) : Prop where
  below : Below n₀ W0 w
  s0 : dn ja = false → dn js = false → BoxA n₀ g w v1 v2 v1 v2 lo hi
  s1 : dn ja = true → dn js = false → BoxA n₀ g w v1 v2 v1 (vals ja) lo (hi ++ [M])
  s2 : dn ja = true → dn js = true → BoxA n₀ g w v1 (vals ja) v1 (vals ja) lo (hi ++ [M])
  fb : dn jb = true → dn ja = false → ∃ b, vals jb = .slice (some ⟨b, 0, none⟩) 1 1 ∧ w.cell? ⟨b, 0, none⟩ = some (.int .i64 M)
  fa : dn ja = true → ∃ b cap, vals ja = .slice (some ⟨b, 0, none⟩) (hi.length + 1) cap
  fv : Told VL dn vals
section
variable {VL : List (Option Value)} {jb ja js n₀ g : Nat} {W0 : World} {v1 v2 : Value} {lo hi : List Int} {M : Int} {dn : Nat → Bool} {vals : Nat → Value} {w : World}
theorem ApJ.start (hb : Below n₀ W0 w) (h : BoxA n₀ g w v1 v2 v1 v2 lo hi) : ApJ VL jb ja js n₀ g W0 v1 v2 lo hi M (fun _ => false) (fun _ => undef) w :=
  ⟨hb, fun _ _ => h, fun h => Bool.noConfusion h, fun h => Bool.noConfusion h, fun h => Bool.noConfusion h, fun h => Bool.noConfusion h, fun _ _ _ h => Bool.noConfusion h⟩
theorem ApJ.read (h : ApJ VL jb ja js n₀ g W0 v1 v2 lo hi M dn vals w) {i : Nat} {v : Value} {w' : World} (hb : jb ≠ i) (ha : ja ≠ i) (hs : js ≠ i) (hv : VL[i]? = some (some v)) (hw : Below w.heap.size w w') (hn : n₀ ≤ w.heap.size) :
    ApJ VL jb ja js n₀ g W0 v1 v2 lo hi M (upd dn i) (updV vals i v) w' := by
  refine ⟨h.below.trans (hw.mono hn), ?_, ?_, ?_, ?_, ?_, h.fv.step (.inl hv)⟩
  · rw [upd_ne ha, upd_ne hs]; exact fun h1 h2 => (h.s0 h1 h2).later hw
  · rw [upd_ne ha, upd_ne hs, updV_ne ha]; exact fun h1 h2 => (h.s1 h1 h2).later hw
  · rw [upd_ne ha, upd_ne hs, updV_ne ha]; exact fun h1 h2 => (h.s2 h1 h2).later hw
  · rw [upd_ne ha, upd_ne hb, updV_ne hb]
    intro h1 h2
    obtain ⟨b, e, hc⟩ := h.fb h1 h2
    exact ⟨b, e, cell_later hc hw⟩
  · rw [upd_ne ha, updV_ne ha]; exact h.fa
theorem ApJ.build (h : ApJ VL jb ja js n₀ g W0 v1 v2 lo hi M dn vals w) (hba : ja ≠ jb) (hbs : js ≠ jb) (hv : VL[jb]? = some none) (hn : n₀ ≤ w.heap.size) :
    ApJ VL jb ja js n₀ g W0 v1 v2 lo hi M (upd dn jb) (updV vals jb (.slice (some ⟨w.heap.size, 0, none⟩) 1 1)) (w.alloc (.cells #[.int .i64 M] 3)) := by
  have hw : Below w.heap.size w (w.alloc (.cells #[.int .i64 M] 3)) := below_alloc _ _
  refine ⟨h.below.trans (hw.mono hn), ?_, ?_, ?_, ?_, ?_, h.fv.step (.inr hv)⟩
  · rw [upd_ne hba, upd_ne hbs]; exact fun h1 h2 => (h.s0 h1 h2).later hw
  · rw [upd_ne hba, upd_ne hbs, updV_ne hba]; exact fun h1 h2 => (h.s1 h1 h2).later hw
  · rw [upd_ne hba, upd_ne hbs, updV_ne hba]; exact fun h1 h2 => (h.s2 h1 h2).later hw
  · intro _ _
    exact ⟨_, updV_at, by rw [World.cell?_alloc_at _ _ _ _ rfl]; rfl⟩
  · rw [upd_ne hba, updV_ne hba]; exact h.fa
theorem ApJ.append (h : ApJ VL jb ja js n₀ g W0 v1 v2 lo hi M dn vals w) (hsa : js ≠ ja) (hv : VL[ja]? = some none) (hn : n₀ ≤ w.heap.size) (hda : dn ja = false) (hds : dn js = false) {g1 cap : Nat} {w1 : World}
    (hown : w1.ownsRow n₀ 3 1 (.slice (some ⟨g1, 0, none⟩) (hi.length + 1) cap) (hi.length + 1) (hi.map (Value.int .i64) ++ [.int .i64 M])) (hg : w.grownBy w1 v2.ownBlock) (hat : v2.ownBlock = some g1 ∨ g1 = w.heap.size) :
    ApJ VL jb ja js n₀ g W0 v1 v2 lo hi M (upd dn ja) (updV vals ja (.slice (some ⟨g1, 0, none⟩) (hi.length + 1) cap)) w1 := by
  have hS := h.s0 hda hds
  refine ⟨h.below.grown hg hn (fun k e => (hS.own2.lt k e).1), ?_, ?_, ?_, ?_, ?_, h.fv.step (.inr hv)⟩
  · rw [upd_at]; exact fun h => Bool.noConfusion h
  · rw [updV_at]; exact fun _ _ => hS.app2 (by decide) hown hg hat
  · rw [upd_ne hsa, hds]; exact fun _ h => Bool.noConfusion h
  · rw [upd_at]; exact fun _ h => Bool.noConfusion h
  · intro _; rw [updV_at]; exact ⟨_, _, rfl⟩
theorem ApJ.store (h : ApJ VL jb ja js n₀ g W0 v1 v2 lo hi M dn vals w) (has : ja ≠ js) (hv : VL[js]? = some none) (hg : n₀ ≤ g) (hda : dn ja = true) (hds : dn js = false) {u : Value} (hu : vals ja = u) {v : Value} :
    ApJ VL jb ja js n₀ g W0 v1 v2 lo hi M (upd dn js) (updV vals js v) (w.setCell ⟨g, 1, none⟩ u) := by
  subst hu
  have hS := (h.s1 hda hds).st2 (by decide)
  refine ⟨h.below.setCell (p := ⟨g, 1, none⟩) hg _, ?_, ?_, ?_, ?_, ?_, h.fv.step (.inr hv)⟩
  · rw [upd_at]; exact fun _ h => Bool.noConfusion h
  · rw [upd_at]; exact fun _ h => Bool.noConfusion h
  · rw [updV_ne has]; exact fun _ _ => hS
  · rw [upd_ne has, hda]; exact fun _ h => Bool.noConfusion h
  · rw [upd_ne has, updV_ne has]; exact h.fa
end
end Go.Proofs.YtpdhlgkcjakcgaaGreatDoor
/- The reference of layer 2, contract: Core. -/
namespace Go.Proofs.YtpdhlgkcjakcgaaGreatDoor
open Go.RowKit

theorem ownsRow_base {n₀ n k : Nat} {w : World} {T : TypeId} {v : Value} {m : Nat} {l : List Value} (h : w.ownsRow n T k v m l) (hn : n₀ ≤ n) : w.ownsRow n₀ T k v m l := by
  refine ⟨h.1, ?_⟩
  rcases h.2 with h | ⟨g, cap, cur, e, h1, h2⟩
  · exact .inl h
  · exact .inr ⟨g, cap, cur, e, Nat.le_trans hn h1, h2⟩
/-- a result: a box of two rows that may be written, and an error -/
def RetBo (b : List Int × List Int) (r : Int) (w : World) (e : Ending) (w' : World) : Prop := ∃ v1 v2, e = .returned (.tuple #[.agg #[v1, v2], .int .i64 r]) ∧ w'.ownsRow w.heap.size 3 1 v1 b.1.length (b.1.map (Value.int .i64)) ∧ w'.ownsRow w.heap.size 3 1 v2 b.2.length (b.2.map (Value.int .i64)) ∧ (∀ k, v1.ownBlock = some k → v2.ownBlock ≠ some k) ∧ Below w.heap.size w w'
set_option maxHeartbeats 2000000 in
theorem rcore_bad (d : List DimT) (l : LayT) (c : List Int) (vd vs vo vc : Value) (w : World) (hd : Dims w vd d) (hl : LayR w vs vo l) (hc : Ints w vc c) (hs : StrD d) (h : layoutE d l ≠ 0) :
    Calls Tryz.prog 33 #[vd, layV vs vo l, vc] w (RetBo ([], []) (layoutE d l) w) := by
  have C := Lib.hid (fun w1 (hb : Below w.heap.size w w1) => rlayout_any d l vd vs vo w1 (hd.later DimR.lasts hb) (hl.later hb) hs)
  obtain ⟨p1, cap1, rfl, -⟩ := hd.shape
  obtain ⟨p2, cap2, rfl, -⟩ := hl.sides.shape
  obtain ⟨p3, cap3, rfl, -⟩ := hl.over.shape
  obtain ⟨p4, cap4, rfl, -⟩ := hc.shape
  have hne : (layoutE d l != 0) = true := by rw [bne_iff_ne]; exact h
  obtain ⟨ss, oo, o, t, f, c'⟩ := l
  generalize layoutE d _ = r at *
  clear hd hl hs h hc
  go_enter Tryz.func33, Tryz.ntmps33
  go_wp2_with fail
  refine (C.out _ ((below_alloc _ _).trans ((below_alloc _ _).mono (by simp)))).mono ?_
  rintro e w1 ⟨rfl, hb⟩
  have HB := Lib.hid (((below_alloc _ _).trans ((below_alloc _ _).mono (by simp))).trans (hb.mono (by simp; omega)))
  have hrs := (ResB.made (w.alloc (.cells #[.slice p2 ss.length cap2, .slice p3 oo.length cap3, .int .i64 o, .int .i64 t, .int .i64 f, .int .i64 c'] 40)) 52).later hb (by simp)
  simp only [World.size_alloc] at hrs
  obtain ⟨r0, r1, r2, r3⟩ := hrs
  clear hb C
  go_wp2
  refine bodyPost_ret (by simp [results, Tryz.results33, go_sem, r0, r1]; try rfl) rfl ?_
  exact ⟨_, _, rfl, World.ownsRow_nil _ _ _ _, World.ownsRow_nil _ _ _ _, (fun b hb => by cases hb), (HB.out.setCell (by simp) _).setCell (by simp) _⟩

set_option maxHeartbeats 2000000 in
theorem rcore_shape (d : List DimT) (l : LayT) (c : List Int) (vd vs vo vc : Value) (w : World) (hd : Dims w vd d) (hl : LayR w vs vo l) (hc : Ints w vc c) (hs : StrD d) (h : layoutE d l = 0) (h2 : c.length ≠ d.length) :
    Calls Tryz.prog 33 #[vd, layV vs vo l, vc] w (RetBo ([], []) 13 w) := by
  have C := Lib.hid (fun w1 (hb : Below w.heap.size w w1) => rlayout_any d l vd vs vo w1 (hd.later DimR.lasts hb) (hl.later hb) hs)
  rw [h] at C
  obtain ⟨p1, cap1, rfl, -⟩ := hd.shape
  obtain ⟨p2, cap2, rfl, -⟩ := hl.sides.shape
  obtain ⟨p3, cap3, rfl, -⟩ := hl.over.shape
  obtain ⟨p4, cap4, rfl, -⟩ := hc.shape
  have h3 : ¬ ((c.length : Int) = d.length) := by omega
  obtain ⟨ss, oo, o, t, f, c'⟩ := l
  clear hd hl hs h hc h2
  go_enter Tryz.func33, Tryz.ntmps33
  go_wp2_with fail
  refine (C.out _ ((below_alloc _ _).trans ((below_alloc _ _).mono (by simp)))).mono ?_
  rintro e w1 ⟨rfl, hb⟩
  have HB := Lib.hid (((below_alloc _ _).trans ((below_alloc _ _).mono (by simp))).trans (hb.mono (by simp; omega)))
  have hrs := (ResB.made (w.alloc (.cells #[.slice p2 ss.length cap2, .slice p3 oo.length cap3, .int .i64 o, .int .i64 t, .int .i64 f, .int .i64 c'] 40)) 52).later hb (by simp)
  simp only [World.size_alloc] at hrs
  obtain ⟨r0, r1, r2, r3⟩ := hrs
  clear hb C
  go_wp2
  refine bodyPost_ret (by simp [results, Tryz.results33, go_sem, r0, r1]; try rfl) rfl ?_
  exact ⟨_, _, rfl, World.ownsRow_nil _ _ _ _, World.ownsRow_nil _ _ _ _, (fun b hb => by cases hb), (HB.out.setCell (by simp) _).setCell (by simp) _⟩

set_option maxHeartbeats 16000000 in
set_option maxRecDepth 100000 in
theorem rcore_core (d : List DimT) (l : LayT) (c : List Int) (vd vs vo vc : Value) (w : World) (hd : Dims w vd d) (hl : LayR w vs vo l) (hc : Ints w vc c) (hs : StrD d) (h : layoutE d l = 0) (h2 : c.length = d.length)
    (hcb : ∀ x ∈ c, -9223372036854775808 ≤ x ∧ x ≤ 9223372036854775807) :
    Calls Tryz.prog 33 #[vd, layV vs vo l, vc] w (RetBo (bxOf (widR [] [] d l.sides (overQ l false) c)) (erOf (widR [] [] d l.sides (overQ l false) c)) w) := by
  have C := Lib.hid (fun w1 (hb : Below w.heap.size w w1) => rlayout_any d l vd vs vo w1 (hd.later DimR.lasts hb) (hl.later hb) hs)
  rw [h] at C
  have GL := Lib.hid (layout_good h)
  have HL2 := Lib.hid h2
  have hd4 := (dims_good GL.out.dims).2.1
  have HDD := Lib.hid hd
  have HLL := Lib.hid hl
  have HCC := Lib.hid hc
  have HCB := Lib.hid hcb
  obtain ⟨p1, cap1, rfl, -⟩ := hd.shape
  obtain ⟨p2, cap2, rfl, -⟩ := hl.sides.shape
  obtain ⟨p3, cap3, rfl, -⟩ := hl.over.shape
  obtain ⟨p4, cap4, rfl, c4, c4'⟩ := hc.shape
  obtain ⟨i0, hi0, hz0, hz1, hz2⟩ := info_parts infoZ
  have HBX := Lib.hid (LayB.made w (.slice p2 l.sides.length cap2) (.slice p3 l.over.length cap3) l 40)
  obtain ⟨W9, hW9⟩ : ∃ W9, W9 = widR [] [] d l.sides (overQ l false) c := ⟨_, rfl⟩
  rw [← hW9]
  have HW9 := Lib.hid hW9
  obtain ⟨R, hR⟩ : ∃ R : Ending → World → Prop, R = RetBo (bxOf W9) (erOf W9) w := ⟨_, rfl⟩
  rw [← hR]
  have HR := Lib.hid hR
  have e1 := GL.out.sides
  have e2 := GL.out.over
  obtain ⟨ss, oo, o, t, f, c'⟩ := l
  simp only at e1 e2 HW9
  simp only [h2, e1, e2] at C HBX HLL HCC c4 ⊢
  clear hd hl hs h hc h2 e1 e2 hW9 hR hcb
  go_enter Tryz.func33, Tryz.ntmps33
  go_wp2_with fail
  refine (C.out _ ((below_alloc _ _).trans ((below_alloc _ _).mono (by simp)))).mono ?_
  rintro e w1 ⟨rfl, hb⟩
  have HB := Lib.hid (((below_alloc _ _).trans ((below_alloc _ _).mono (by simp))).trans (hb.mono (by simp; omega)))
  have HS1 : Hid (w.heap.size + 2 ≤ w1.heap.size) := by show _ ≤ _; have := hb.size; simp at this; omega
  have hrs := (ResB.made (w.alloc (.cells #[.slice p2 d.length cap2, .slice p3 d.length cap3, .int .i64 o, .int .i64 t, .int .i64 f, .int .i64 c'] 40)) 52).later hb (by simp)
  simp only [World.size_alloc] at hrs
  have HRS := Lib.hid hrs
  have HLB := Lib.hid (HBX.out w1 (((below_alloc _ _).mono (by simp)).trans (hb.mono (by simp))))
  clear hb C hrs HBX
  go_wp2
  have HBO : Hid (BoxO w1.heap.size w1.heap.size (w1.alloc (.cells #[.slice none 0 0, .slice none 0 0] 52)) (.slice none 0 0) (.slice none 0 0) [] []) :=
    ⟨ResB.made w1 _, World.ownsRow_nil _ _ _ _, World.ownsRow_nil _ _ _ _, (fun b hb => by cases hb), ⟨_, (0, 0), World.alloc_heap_new w1 _⟩⟩
  have HAB := Lib.hid (below_alloc w1 (.cells #[.slice none 0 0, .slice none 0 0] 52))
  go_loopw [10] (fun iv wr => ∃ (i : Nat) (v1 v2 : Value) (lo hi : List Int), i ≤ d.length ∧ iv = .int .i64 (i : Nat) ∧ Hid (lo.length = i ∧ hi.length = i) ∧ Hid (widR lo hi (d.drop i) (ss.drop i) ((overQ ⟨ss, oo, o, t, f, c'⟩ false).drop i) (c.drop i) = W9) ∧ BoxO w1.heap.size w1.heap.size wr v1 v2 lo hi ∧ Below w1.heap.size w1 wr) (fun iv _ => d.length - (intOf iv).toNat)
  case atStart => exact ⟨0, _, _, [], [], Nat.zero_le _, rfl, ⟨rfl, rfl⟩, HW9.out.symm, HBO.out, HAB.out⟩
  case round =>
    clear HBO HAB
    obtain ⟨i, v1, v2, lo, hi, hi', rfl, HLN, HN, hbo, hb⟩ := hrel
    have HBO := Lib.hid hbo
    have HBR := Lib.hid hb
    have HBW := Lib.hid (HB.out.trans (hb.mono (by have := HS1.out; omega)))
    obtain ⟨r0, r1, r2, r3⟩ := HRS.out.later hb (by have : w.heap.size + 2 ≤ w1.heap.size := HS1.out; omega)
    obtain ⟨b0, b1, -⟩ := HLB.out
    have b0 := cell_later b0 hb
    have b1 := cell_later b1 hb
    by_cases hlt : i < d.length
    · obtain ⟨gd, od, x, ea, hx, hr⟩ := Ls.at HDD.out i hlt
      obtain ⟨gs, os, y, ea', hy, hr'⟩ := Ls.at HLL.out.sides i (by rw [GL.out.sides]; exact hlt)
      obtain ⟨go, oo', z, ez, hz, hrz⟩ := Ls.at HLL.out.over i (by rw [GL.out.over]; exact hlt)
      obtain ⟨gc, oc, n, ea'', hn, hr''⟩ := Ls.at HCC.out i (by rw [HL2.out]; exact hlt)
      subst ea ea' ez ea''
      have HGD0 : Hid (gd < w1.heap.size) := Nat.lt_of_lt_of_le (World.block_lt_of_cell? _ _ hr.lo) (Nat.le_trans (Nat.le_add_right _ 2) HS1.out)
      have HGS0 : Hid (gs < w1.heap.size) := Nat.lt_of_lt_of_le (World.block_lt_of_cell? _ _ hr') (Nat.le_trans (Nat.le_add_right _ 2) HS1.out)
      have hr := DimR.lasts _ _ _ _ _ hr HBW.out
      have hr' := IntR.lasts _ _ _ _ _ hr' HBW.out
      have hrz := IntR.lasts _ _ _ _ _ hrz HBW.out
      have hr'' := IntR.lasts _ _ _ _ _ hr'' HBW.out
      rw [Nat.mul_one] at hr' hrz hr''
      unfold IntR at hr' hrz hr''
      obtain ⟨x0, x1, x2⟩ := hr
      have gsd := GL.out.good i y z hy hz
      have gx := (dims_good GL.out.dims).2.2 x (List.mem_of_getElem? hx)
      have gl := gx.last
      have hcn := HCB.out n (List.mem_of_getElem? hn)
      have hcn1 := hcn.1
      have hcn2 := hcn.2
      have hzq : (overQ ⟨ss, oo, o, t, f, c'⟩ false)[i]? = some (0 : Int) := by
        unfold overQ
        rw [if_neg (by decide), List.getElem?_replicate, if_pos (by rw [show oo.length = d.length from GL.out.over]; exact hlt)]
      have z0 : (0 : Int) ≤ (0 : Int) := by omega
      have z16 : (0 : Int) ≤ (16 : Int) := by omega
      have hW := HN.out
      rw [widR_drop hx hy hzq hn] at hW
      have HW := Lib.hid hW
      have y1 := gsd.s1
      have y64 := gsd.s2
      have g1 := gx.lo
      have g2 := gx.lo'
      have g3 := gl.1
      have g4 := gl.2.1
      have HLX := Lib.hid (fun w9 => rlast_any x w9)
      have HX1 : Hid (wr.cell? ⟨gd, od + i * 3, none⟩ = some (strV x.name)) := x0
      have HGD : Hid (gd < w1.heap.size) := HGD0.out
      have HGS : Hid (gs < w1.heap.size) := HGS0.out
      obtain ⟨L, hL⟩ : ∃ L, L = x.last := ⟨_, rfl⟩
      rw [← hL] at HW g3 g4 HLX
      obtain ⟨nm, xl, xh⟩ := x
      simp only at x0 x1 x2 g1 g2 g3 HW HLX HX1
      have ib0 : (0 : Int) ≤ (i : Int) := by omega
      have ib1 : (i : Int) < (d.length : Int) := by omega
      have hsub : IntKind.i64.wrap (L - xl) = L - xl := IntWalk.i64_in _ (by omega)
      have hdiv : (L - xl).tdiv y = (L - xl) / y := Int.tdiv_eq_ediv_of_nonneg (by omega)
      have hd0 : 0 ≤ (L - xl) / y := Int.ediv_nonneg (by omega) (by omega)
      have hd1 : (L - xl) / y ≤ L - xl := Int.ediv_le_self _ (by omega)
      have hdm : (L - xl) / y * y ≤ L - xl := Int.ediv_mul_le _ (by omega)
      have hwr : IntKind.i64.wrap ((L - xl) / y) = (L - xl) / y := IntWalk.i64_in _ (by omega)
      have hyne : ¬ y = 0 := by omega
      obtain ⟨Q, hQ⟩ : ∃ Q, Q = (L - xl) / y := ⟨_, rfl⟩
      rw [← hQ] at hdiv hwr hd0 hd1 hdm HW
      have K : Hid (∀ w', Below wr.heap.size wr w' → w'.cell? ⟨gd, od + i * 3, none⟩ = some (strV nm) ∧ w'.cell? ⟨gd, od + i * 3 + 1, none⟩ = some (.int .i64 xl) ∧ w'.cell? ⟨gd, od + i * 3 + 2, none⟩ = some (.int .i64 xh) ∧ w'.cell? ⟨gs, os + i, none⟩ = some (.int .i64 y) ∧ w'.cell? ⟨gc, oc + i, none⟩ = some (.int .i64 n) ∧ w'.cell? ⟨w.heap.size, 0, none⟩ = some (.slice (some ⟨gs, os, none⟩) d.length cap2) ∧ Below wr.heap.size wr w') := fun w' hb' => ⟨cell_later x0 hb', cell_later x1 hb', cell_later x2 hb', cell_later hr' hb', cell_later hr'' hb', cell_later b0 hb', hb'⟩
      have HRB : Hid (ResB wr (w.heap.size + 1) (.slice none 0 0) (.slice none 0 0)) := ⟨r0, r1, r2, r3⟩
      have hlt2 : w.heap.size + 1 < wr.heap.size := World.block_lt_of_cell? _ _ r0
      clear hb hbo hx hy hz hn hzq hcn hW gsd gx gl hL hQ r0 r1 r2 r3 x0 x1 x2
      have HXY : Hid (-1073741824 ≤ xl ∧ xl ≤ 1073741824 ∧ L ≤ 1073741824 ∧ xl ≤ L ∧ 1 ≤ y ∧ y ≤ 64) := ⟨g1, g2, g4, g3, y1, y64⟩
      by_cases hn0 : n < 0
      · have hdn : decide (n < 0) = true := decide_eq_true hn0
        have hWn : Hid (W9 = none) := by show _ = _; rw [← HW.out, if_pos (.inl hn0)]
        clear hn0
        go_wp2_with fail
        go_quiet (fail)
        obtain ⟨r0, r1, r2, r3⟩ := HRB.out
        have HBQ := Lib.hid (HBW.out.trans ((below_drewN' wr nq).mono HBW.out.size))
        go_wp2
        refine bodyPost_ret (by simp [results, Tryz.results33, go_sem, r0, r1]; try rfl) rfl ?_
        rw [HR.out, hWn.out]
        exact ⟨_, _, rfl, World.ownsRow_nil _ _ _ _, World.ownsRow_nil _ _ _ _, (fun b hb => by cases hb), (HBQ.out.setCell (by simp) _).setCell (by simp) _⟩
      · have hdn : decide (n < 0) = false := decide_eq_false hn0
        have HN0 : Hid (0 ≤ n) := by show _ ≤ _; omega
        have HDM := Lib.hid (And.intro hdm (And.intro hd0 hd1))
        clear hr' hr'' b0 b1 hdm hd1
        go_wp2_with fail
        go_region_held3 (fun w' => w'.cell? ⟨gd, od + i * 3, none⟩ = some (strV nm) ∧ w'.cell? ⟨gd, od + i * 3 + 1, none⟩ = some (.int .i64 xl) ∧ w'.cell? ⟨gd, od + i * 3 + 2, none⟩ = some (.int .i64 xh) ∧ w'.cell? ⟨gs, os + i, none⟩ = some (.int .i64 y) ∧ w'.cell? ⟨gc, oc + i, none⟩ = some (.int .i64 n) ∧ w'.cell? ⟨w.heap.size, 0, none⟩ = some (.slice (some ⟨gs, os, none⟩) d.length cap2) ∧ Below wr.heap.size wr w')
          (first | exact K.out _ (Below.refl _ _).drew | exact K.out _ (by assumption))
          ((go_at_call 88; refine (HLX.out _).mono ?_; rintro e w2 ⟨rfl, hb2⟩; have hb3 : Below wr.heap.size wr w2 := below_keep (Below.refl _ _).drew hb2))
        have HB2 := Lib.hid (HBW.out.trans (hb3.mono HBW.out.size))
        have HBR2 := Lib.hid (HBR.out.trans (hb3.mono HBR.out.size))
        have HBO2 := Lib.hid (HBO.out.later hb3)
        obtain ⟨x0, x1, x2, x3, x4, x5, -⟩ := K.out w2 hb3
        have hlt3 : w.heap.size + 1 < w2.heap.size := Nat.lt_of_lt_of_le hlt2 hb3.size
        have HRB2 := Lib.hid (HRB.out.later hb3 hlt2)
        clear hb2 hb3 hdn hsub hdiv hwr K
        by_cases hQn : Q < n
        · have hWn : Hid (W9 = none) := by show _ = _; rw [← HW.out, if_pos (.inr hQn)]
          obtain ⟨r0, r1, r2, r3⟩ := HRB2.out
          go_wp2
          refine bodyPost_ret (by simp [results, Tryz.results33, go_sem, r0, r1]; try rfl) rfl ?_
          rw [HR.out, hWn.out]
          exact ⟨_, _, rfl, World.ownsRow_nil _ _ _ _, World.ownsRow_nil _ _ _ _, (fun b hb => by cases hb), (HB2.out.setCell (by simp) _).setCell (by simp) _⟩
        · have hWn := HW.out
          rw [if_neg (fun hh => hh.elim (fun h => by have := HN0.out; omega) hQn)] at hWn
          have hny : n * y ≤ Q * y := Int.mul_le_mul_of_nonneg_right (by omega) (by have := HXY.out; omega)
          have hny0 : 0 ≤ n * y := Int.mul_nonneg HN0.out (by have := HXY.out; omega)
          have hny1 : n * y ≤ 2147483648 := by have := HXY.out; have := HDM.out; omega
          have hm0 : max (xl + n * y - 0) xl = xl + n * y := by omega
          have hm1 : xl + n * y + y - 1 + 0 = xl + n * y + y - 1 := by omega
          rw [hm0, hm1] at hWn
          have wm : IntKind.i64.wrap (n * y) = n * y := IntWalk.i64_in _ (by omega)
          have wa : IntKind.i64.wrap (xl + n * y) = xl + n * y := IntWalk.i64_in _ (by have := HXY.out; omega)
          obtain ⟨P, hP⟩ : ∃ P, P = xl + n * y := ⟨_, rfl⟩
          have HPB : Hid (-1073741824 ≤ P ∧ P ≤ 3221225472) := by have := HXY.out; show _ ∧ _; omega
          rw [← hP] at hWn
          have HWN := Lib.hid hWn
          have HP := Lib.hid hP
          have HQN : Hid (¬ Q < n) := hQn
          clear hWn hny hny0 hny1 hm0 hm1 hP
          go_wp2_with fail
          go_quiet (fail)
          rw [← HP.out]
          obtain ⟨n2, hn2⟩ : ∃ n2, n2 = nq := ⟨_, rfl⟩
          rw [← hn2]
          clear hn2
          have HBQ := Lib.hid (below_drewN' w2 n2)
          have x0 := cell_later x0 HBQ.out
          have x1 := cell_later x1 HBQ.out
          have x2 := cell_later x2 HBQ.out
          have x3 := cell_later x3 HBQ.out
          have x5 := cell_later x5 HBQ.out
          have HBR3 := Lib.hid (below_keep HBR2.out HBQ.out)
          have HBO3 := Lib.hid (HBO2.out.later HBQ.out)
          obtain ⟨W3, hW3⟩ : ∃ W3, W3 = w2.drewN n2 := ⟨_, rfl⟩
          rw [← hW3] at HBR3 HBO3 x0 x1 x2 x3 x5 ⊢
          clear hW3 wm wa HBQ x4
          have hll : lo.length ≤ 900 := by have := HLN.out.1; omega
          have hlh : hi.length ≤ 900 := by have := HLN.out.2; omega
          obtain ⟨⟨f0, f1, f2, f3⟩, ow1, ow2, hap, htg⟩ := HBO3.out
          have hq1 : w1.heap.size < W3.heap.size := htg.lt
          have hq2 : w1.heap.size ≠ W3.heap.size := Nat.ne_of_lt hq1
          have hge1 : w1.heap.size ≤ W3.heap.size := Nat.le_of_lt hq1
          clear hap htg ow2
          go_wp2_with (at_builtin; refine wpList_append_lies _ (by rfl) _ _ 38 (by rfl) w1.heap.size 3 i0 (.int .i64 0) 1 8 Tryz.underlying38 hi0 hz0 hz1 hz2 rfl (by decide) v1 lo.length (lo.map (Value.int .i64)) (by rfl) (ow1.alloc _) ⟨W3.heap.size, 0, none⟩ 1 1 [.int .i64 P] (by rfl) (by rfl) (cell_one_new _ _ _) (by simp [Value.oneCell']) (by omega) (by unfold maxLen; omega) (by omega) (by simp; omega) (W3.heap.size + 1) (by simp) ?_)
          intro g1 cp1 w6 hown hgrow hat hlt6
          have hbd : Below W3.heap.size W3 (W3.alloc (.cells #[.int .i64 P] 3)) := below_alloc _ _
          obtain ⟨⟨f0', f1', f2', f3'⟩, hbo4⟩ := BoxO.put1 (HBO3.out.later hbd) (by decide) (H := W3.heap.size + 1) (by simp) hown hgrow hat
          have HBO4 := Lib.hid hbo4
          have hbx4 : Below w1.heap.size W3 (w6.setCell ⟨w1.heap.size, 0, none⟩ (.slice (some ⟨g1, 0, none⟩) (lo.length + 1) cp1)) := ((hbd.mono hge1).grown hgrow (Nat.le_trans hge1 hbd.size) (fun k e => (HBO3.out.own1.lt k e).1)).setCell (p := ⟨w1.heap.size, 0, none⟩) (Nat.le_refl _) _
          have HBX4 := Lib.hid hbx4
          have HB4 := Lib.hid (HBR3.out.trans hbx4)
          have KX : Hid (gd < w1.heap.size ∧ gs < w1.heap.size ∧ w.heap.size < w1.heap.size) := ⟨HGD.out, HGS.out, by have := HS1.out; omega⟩
          have hc : ∀ g o v, g < w1.heap.size → W3.cell? ⟨g, o, none⟩ = some v → (w6.setCell ⟨w1.heap.size, 0, none⟩ (.slice (some ⟨g1, 0, none⟩) (lo.length + 1) cp1)).cell? ⟨g, o, none⟩ = some v := fun g o v hg h => (hbx4.cell (p := ⟨g, o, none⟩) hg).trans h
          have y0 := hc _ _ _ KX.out.1 x0
          have y1 := hc _ _ _ KX.out.1 x1
          have y2 := hc _ _ _ KX.out.1 x2
          have y3 := hc _ _ _ KX.out.2.1 x3
          have y5 := hc _ _ _ KX.out.2.2 x5
          clear hown hgrow hat hlt6 hbd hbo4 hbx4 hc f0 f1 f2 f3 ow1 hq1 hq2 hge1 x0 x1 x2 x3 x5
          go_upto_region 14 with (fail)
          obtain ⟨W4, hW4⟩ : ∃ W4, W4 = w6.setCell ⟨w1.heap.size, 0, none⟩ (.slice (some ⟨g1, 0, none⟩) (lo.length + 1) cp1) := ⟨_, rfl⟩
          rw [← hW4] at HBO4 HB4 HBX4 y0 y1 y2 y3 y5 ⊢
          clear hW4 f0' f1' f2' f3'
          obtain ⟨f0, f1, f2, f3⟩ := HBO4.out.res
          have HBA : Hid (BoxA w1.heap.size w1.heap.size W4 (.slice (some ⟨g1, 0, none⟩) (lo.length + 1) cp1) v2 (.slice (some ⟨g1, 0, none⟩) (lo.length + 1) cp1) v2 (lo ++ [P]) hi) := BoxA.of HBO4.out
          have KY : Hid (∀ w', Below w1.heap.size W4 w' → w'.cell? ⟨gd, od + i * 3, none⟩ = some (strV nm) ∧ w'.cell? ⟨gd, od + i * 3 + 1, none⟩ = some (.int .i64 xl) ∧ w'.cell? ⟨gd, od + i * 3 + 2, none⟩ = some (.int .i64 xh) ∧ w'.cell? ⟨gs, os + i, none⟩ = some (.int .i64 y) ∧ w'.cell? ⟨w.heap.size, 0, none⟩ = some (.slice (some ⟨gs, os, none⟩) d.length cap2)) := fun w' h =>
            ⟨(h.cell (p := ⟨gd, od + i * 3, none⟩) KX.out.1).trans y0, (h.cell (p := ⟨gd, od + i * 3 + 1, none⟩) KX.out.1).trans y1, (h.cell (p := ⟨gd, od + i * 3 + 2, none⟩) KX.out.1).trans y2, (h.cell (p := ⟨gs, os + i, none⟩) KX.out.2.1).trans y3, (h.cell (p := ⟨w.heap.size, 0, none⟩) KX.out.2.2).trans y5⟩
          have hge4 : w1.heap.size ≤ W4.heap.size := HB4.out.size
          have HNX : Hid (∀ wx, Below w1.heap.size W4 wx → w1.heap.size ≤ wx.heap.size) := fun wx h => Nat.le_trans hge4 h.size
          have HGN : Hid (w1.heap.size ≤ w1.heap.size) := Nat.le_refl _
          have w5 : IntKind.i64.wrap (P + y) = P + y := IntWalk.i64_in _ (by have := HPB.out; have := HXY.out; omega)
          have w7 : IntKind.i64.wrap (P + y - 1) = P + y - 1 := IntWalk.i64_in _ (by have := HPB.out; have := HXY.out; omega)
          clear f0 f1 f2 f3 y0 y1 y2 y3 y5 hge4
          refine wp_region_inv [some 83, some 84, some 85, some 86, some 87, some 88, some 89, some 90, some 91, some 92, some 93, some 94, some 95, some 96, some 97, some 98, some 99, some 100, some 101, none] (ApJ [some (.pointer (some ⟨w1.heap.size, 1, none⟩)), some (v2), some (.int .i64 P), some (.pointer (some ⟨w.heap.size, 0, none⟩)), some (.slice (some ⟨gs, os, none⟩) d.length cap2), some (.int .i64 (i : Nat)), some (.pointer (some ⟨gs, os + i, none⟩)), some (.int .i64 y), some (.int .i64 (P + y)), some (.int .i64 (P + y - 1)), some (.slice (some ⟨gd, od, none⟩) d.length cap1), some (.int .i64 (i : Nat)), some (.pointer (some ⟨gd, od + i * 3, none⟩)), some (.agg #[strV nm, .int .i64 xl, .int .i64 xh]), some (.int .i64 L), some (.int .i64 (min (P + y - 1) L)), none, none, some (.pointer (some ⟨w1.heap.size, 1, none⟩)), none] 16 17 19 w1.heap.size w1.heap.size W4 (.slice (some ⟨g1, 0, none⟩) (lo.length + 1) cp1) v2 (lo ++ [P]) hi (min (P + y - 1) L)) rfl (by kernel_rfl) (by kernel_rfl) (by kernel_rfl) (by kernel_rfl) ?_ ?_ ?_
          · exact ApJ.start (Below.refl _ _).drew (HBA.out.later (Below.refl _ _).drew)
          · intro i9 op9 ho
            have hi9 : i9 < 20 := (Array.getElem?_eq_some_iff.1 ho).1
            match i9, hi9 with
            | 0, _ =>
              obtain rfl := Option.some.inj ho
              intro a9 dn vals wx hJ0 hdi hde hdj hev hsl hun
              have hJ := Lib.hid hJ0
              rw [if_pos (wanted_none rfl)]
              have f9 : (a9.tmps[9]?).getD undef = .pointer (some ⟨w1.heap.size, 0, none⟩) := hev 9 (by kernel_rfl)
              clear hde hdj hev hsl hun hJ0 hdi
              go_simp
              exact hJ.out.read (by decide) (by decide) (by decide) rfl (Below.refl _ _) (HNX.out wx hJ.out.below)
            | 1, _ =>
              obtain rfl := Option.some.inj ho
              intro a9 dn vals wx hJ0 hdi hde hdj hev hsl hun
              have hJ := Lib.hid hJ0
              rw [if_pos (wanted_none rfl)]
              have f83 : (a9.tmps[83]?).getD undef = .pointer (some ⟨w1.heap.size, 1, none⟩) := (hsl 0 83 (hde 0 _ rfl rfl) rfl).trans (hJ.out.fv 0 _ rfl (hde 0 _ rfl rfl))
              have n17 : Hid (dn 17 = false) := hdj 17 0 _ _ rfl rfl rfl rfl
              have n19 : Hid (dn 19 = false) := hdj 19 4 _ _ rfl rfl rfl rfl
              obtain ⟨k0, k1, k2, k3⟩ := (hJ.out.s0 n17.out n19.out).res
              clear hde hdj hev hsl hun hJ0 hdi
              clear n17 n19
              go_simp
              exact hJ.out.read (by decide) (by decide) (by decide) rfl (Below.refl _ _) (HNX.out wx hJ.out.below)
            | 2, _ =>
              obtain rfl := Option.some.inj ho
              intro a9 dn vals wx hJ0 hdi hde hdj hev hsl hun
              have hJ := Lib.hid hJ0
              rw [if_pos (wanted_none rfl)]
              have f11 : (a9.tmps[11]?).getD undef = .int .i64 P := hev 11 (by kernel_rfl)
              clear hde hdj hev hsl hun hJ0 hdi
              go_simp
              exact hJ.out.read (by decide) (by decide) (by decide) rfl (Below.refl _ _) (HNX.out wx hJ.out.below)
            | 3, _ =>
              obtain rfl := Option.some.inj ho
              intro a9 dn vals wx hJ0 hdi hde hdj hev hsl hun
              have hJ := Lib.hid hJ0
              rw [if_pos (wanted_none rfl)]
              have f4 : (a9.tmps[4]?).getD undef = .pointer (some ⟨w.heap.size, 0, none⟩) := hev 4 (by kernel_rfl)
              clear hde hdj hev hsl hun hJ0 hdi
              go_simp
              exact hJ.out.read (by decide) (by decide) (by decide) rfl (Below.refl _ _) (HNX.out wx hJ.out.below)
            | 4, _ =>
              obtain rfl := Option.some.inj ho
              intro a9 dn vals wx hJ0 hdi hde hdj hev hsl hun
              have hJ := Lib.hid hJ0
              rw [if_pos (wanted_none rfl)]
              have f86 : (a9.tmps[86]?).getD undef = .pointer (some ⟨w.heap.size, 0, none⟩) := (hsl 3 86 (hde 0 _ rfl rfl) rfl).trans (hJ.out.fv 3 _ rfl (hde 0 _ rfl rfl))
              obtain ⟨c0, c1, c2, c3, c5⟩ := KY.out _ hJ.out.below
              clear hde hdj hev hsl hun hJ0 hdi
              go_simp
              exact hJ.out.read (by decide) (by decide) (by decide) rfl (Below.refl _ _) (HNX.out wx hJ.out.below)
            | 5, _ =>
              obtain rfl := Option.some.inj ho
              intro a9 dn vals wx hJ0 hdi hde hdj hev hsl hun
              have hJ := Lib.hid hJ0
              rw [if_pos (wanted_none rfl)]
              have f10 : (a9.tmps[10]?).getD undef = .int .i64 (i : Nat) := hev 10 (by kernel_rfl)
              clear hde hdj hev hsl hun hJ0 hdi
              go_simp
              exact hJ.out.read (by decide) (by decide) (by decide) rfl (Below.refl _ _) (HNX.out wx hJ.out.below)
            | 6, _ =>
              obtain rfl := Option.some.inj ho
              intro a9 dn vals wx hJ0 hdi hde hdj hev hsl hun
              have hJ := Lib.hid hJ0
              rw [if_pos (wanted_none rfl)]
              have f87 : (a9.tmps[87]?).getD undef = .slice (some ⟨gs, os, none⟩) d.length cap2 := (hsl 4 87 (hde 0 _ rfl rfl) rfl).trans (hJ.out.fv 4 _ rfl (hde 0 _ rfl rfl))
              have f88 : (a9.tmps[88]?).getD undef = .int .i64 (i : Nat) := (hsl 5 88 (hde 1 _ rfl rfl) rfl).trans (hJ.out.fv 5 _ rfl (hde 1 _ rfl rfl))
              clear hde hdj hev hsl hun hJ0 hdi
              go_simp
              exact hJ.out.read (by decide) (by decide) (by decide) rfl (Below.refl _ _) (HNX.out wx hJ.out.below)
            | 7, _ =>
              obtain rfl := Option.some.inj ho
              intro a9 dn vals wx hJ0 hdi hde hdj hev hsl hun
              have hJ := Lib.hid hJ0
              rw [if_pos (wanted_none rfl)]
              have f89 : (a9.tmps[89]?).getD undef = .pointer (some ⟨gs, os + i, none⟩) := (hsl 6 89 (hde 0 _ rfl rfl) rfl).trans (hJ.out.fv 6 _ rfl (hde 0 _ rfl rfl))
              obtain ⟨c0, c1, c2, c3, c5⟩ := KY.out _ hJ.out.below
              clear hde hdj hev hsl hun hJ0 hdi
              go_simp
              exact hJ.out.read (by decide) (by decide) (by decide) rfl (Below.refl _ _) (HNX.out wx hJ.out.below)
            | 8, _ =>
              obtain rfl := Option.some.inj ho
              intro a9 dn vals wx hJ0 hdi hde hdj hev hsl hun
              have hJ := Lib.hid hJ0
              rw [if_pos (wanted_none rfl)]
              have f85 : (a9.tmps[85]?).getD undef = .int .i64 P := (hsl 2 85 (hde 0 _ rfl rfl) rfl).trans (hJ.out.fv 2 _ rfl (hde 0 _ rfl rfl))
              have f90 : (a9.tmps[90]?).getD undef = .int .i64 y := (hsl 7 90 (hde 1 _ rfl rfl) rfl).trans (hJ.out.fv 7 _ rfl (hde 1 _ rfl rfl))
              clear hde hdj hev hsl hun hJ0 hdi
              go_simp
              exact hJ.out.read (by decide) (by decide) (by decide) rfl (Below.refl _ _) (HNX.out wx hJ.out.below)
            | 9, _ =>
              obtain rfl := Option.some.inj ho
              intro a9 dn vals wx hJ0 hdi hde hdj hev hsl hun
              have hJ := Lib.hid hJ0
              rw [if_pos (wanted_none rfl)]
              have f91 : (a9.tmps[91]?).getD undef = .int .i64 (P + y) := (hsl 8 91 (hde 0 _ rfl rfl) rfl).trans (hJ.out.fv 8 _ rfl (hde 0 _ rfl rfl))
              clear hde hdj hev hsl hun hJ0 hdi
              go_simp
              exact hJ.out.read (by decide) (by decide) (by decide) rfl (Below.refl _ _) (HNX.out wx hJ.out.below)
            | 10, _ =>
              obtain rfl := Option.some.inj ho
              intro a9 dn vals wx hJ0 hdi hde hdj hev hsl hun
              have hJ := Lib.hid hJ0
              rw [if_pos (wanted_none rfl)]
              have f0 : (a9.tmps[0]?).getD undef = .slice (some ⟨gd, od, none⟩) d.length cap1 := hev 0 (by kernel_rfl)
              clear hde hdj hev hsl hun hJ0 hdi
              go_simp
              exact hJ.out.read (by decide) (by decide) (by decide) rfl (Below.refl _ _) (HNX.out wx hJ.out.below)
            | 11, _ =>
              obtain rfl := Option.some.inj ho
              intro a9 dn vals wx hJ0 hdi hde hdj hev hsl hun
              have hJ := Lib.hid hJ0
              rw [if_pos (wanted_none rfl)]
              have f10 : (a9.tmps[10]?).getD undef = .int .i64 (i : Nat) := hev 10 (by kernel_rfl)
              clear hde hdj hev hsl hun hJ0 hdi
              go_simp
              exact hJ.out.read (by decide) (by decide) (by decide) rfl (Below.refl _ _) (HNX.out wx hJ.out.below)
            | 12, _ =>
              obtain rfl := Option.some.inj ho
              intro a9 dn vals wx hJ0 hdi hde hdj hev hsl hun
              have hJ := Lib.hid hJ0
              rw [if_pos (wanted_none rfl)]
              have f93 : (a9.tmps[93]?).getD undef = .slice (some ⟨gd, od, none⟩) d.length cap1 := (hsl 10 93 (hde 0 _ rfl rfl) rfl).trans (hJ.out.fv 10 _ rfl (hde 0 _ rfl rfl))
              have f94 : (a9.tmps[94]?).getD undef = .int .i64 (i : Nat) := (hsl 11 94 (hde 1 _ rfl rfl) rfl).trans (hJ.out.fv 11 _ rfl (hde 1 _ rfl rfl))
              clear hde hdj hev hsl hun hJ0 hdi
              go_simp
              exact hJ.out.read (by decide) (by decide) (by decide) rfl (Below.refl _ _) (HNX.out wx hJ.out.below)
            | 13, _ =>
              obtain rfl := Option.some.inj ho
              intro a9 dn vals wx hJ0 hdi hde hdj hev hsl hun
              have hJ := Lib.hid hJ0
              rw [if_pos (wanted_none rfl)]
              have f95 : (a9.tmps[95]?).getD undef = .pointer (some ⟨gd, od + i * 3, none⟩) := (hsl 12 95 (hde 0 _ rfl rfl) rfl).trans (hJ.out.fv 12 _ rfl (hde 0 _ rfl rfl))
              obtain ⟨c0, c1, c2, c3, c5⟩ := KY.out _ hJ.out.below
              clear hde hdj hev hsl hun hJ0 hdi
              go_simp
              exact hJ.out.read (by decide) (by decide) (by decide) rfl (Below.refl _ _) (HNX.out wx hJ.out.below)
            | 14, _ =>
              obtain rfl := Option.some.inj ho
              intro a9 dn vals wx hJ0 hdi hde hdj hev hsl hun
              have hJ := Lib.hid hJ0
              rw [if_pos (wanted_none rfl)]
              have f96 : (a9.tmps[96]?).getD undef = .agg #[strV nm, .int .i64 xl, .int .i64 xh] := (hsl 13 96 (hde 0 _ rfl rfl) rfl).trans (hJ.out.fv 13 _ rfl (hde 0 _ rfl rfl))
              clear hde hdj hev hsl hun hJ0 hdi
              go_simp
              exact (HLX.out wx).mono fun e w9 ⟨he, hb9⟩ => ⟨_, he, hJ.out.read (by decide) (by decide) (by decide) rfl hb9 (HNX.out wx hJ.out.below)⟩
            | 15, _ =>
              obtain rfl := Option.some.inj ho
              intro a9 dn vals wx hJ0 hdi hde hdj hev hsl hun
              have hJ := Lib.hid hJ0
              rw [if_pos (wanted_none rfl)]
              have f92 : (a9.tmps[92]?).getD undef = .int .i64 (P + y - 1) := (hsl 9 92 (hde 0 _ rfl rfl) rfl).trans (hJ.out.fv 9 _ rfl (hde 0 _ rfl rfl))
              have f97 : (a9.tmps[97]?).getD undef = .int .i64 L := (hsl 14 97 (hde 1 _ rfl rfl) rfl).trans (hJ.out.fv 14 _ rfl (hde 1 _ rfl rfl))
              clear hde hdj hev hsl hun hJ0 hdi
              go_simp
              exact hJ.out.read (by decide) (by decide) (by decide) rfl (Below.refl _ _) (HNX.out wx hJ.out.below)
            | 16, _ =>
              obtain rfl := Option.some.inj ho
              intro a9 dn vals wx hJ0 hdi hde hdj hev hsl hun
              have hJ := Lib.hid hJ0
              rw [if_pos (wanted_none rfl)]
              have f98 : (a9.tmps[98]?).getD undef = .int .i64 (min (P + y - 1) L) := (hsl 15 98 (hde 0 _ rfl rfl) rfl).trans (hJ.out.fv 15 _ rfl (hde 0 _ rfl rfl))
              clear hde hdj hev hsl hun hJ0 hdi
              go_simp
              exact hJ.out.build (by decide) (by decide) rfl (HNX.out wx hJ.out.below)
            | 17, _ =>
              obtain rfl := Option.some.inj ho
              intro a9 dn vals wx hJ0 hdi hde hdj hev hsl hun
              have hJ := Lib.hid hJ0
              rw [if_pos (wanted_none rfl)]
              have f84 : (a9.tmps[84]?).getD undef = v2 := (hsl 1 84 (hde 0 _ rfl rfl) rfl).trans (hJ.out.fv 1 _ rfl (hde 0 _ rfl rfl))
              obtain ⟨b3, e3, q3⟩ := hJ.out.fb (hde 1 _ rfl rfl) hdi
              have f99 : (a9.tmps[99]?).getD undef = .slice (some ⟨b3, 0, none⟩) 1 1 := (hsl 16 99 (hde 1 _ rfl rfl) rfl).trans e3
              have n19 : Hid (dn 19 = false) := hdj 19 1 _ _ rfl rfl rfl rfl
              have hS := hJ.out.s0 hdi n19.out
              obtain ⟨g9, cap9, w9, hrun, hown, hgr, hat, hlt9⟩ := run_append_lies (P := Tryz.prog) (w := wx) 38 38 w1.heap.size 3 i0 (.int .i64 0) 1 8 Tryz.underlying38 hi0 hz0 hz1 hz2 rfl (by decide) v2 hi.length _ hS.own2 ⟨b3, 0, none⟩ 1 1 [.int .i64 (min (P + y - 1) L)] rfl (fun j u hj => by
                match j, hj with
                | 0, hj => simp at hj; subst hj; exact q3) (fun u hu => by simp at hu; subst hu; rfl) (by decide) (by unfold maxLen; omega) (by omega) (HNX.out wx hJ.out.below) _ rfl
              have HF := Lib.hid (hJ.out.append (by decide) rfl (HNX.out wx hJ.out.below) hdi n19.out hown hgr hat)
              have HRUN := Lib.hid hrun
              clear hde hdj hev hsl hun hJ0 hdi
              clear hrun hown hgr hat hlt9 hS q3 e3
              refine does_append2 (s := .tmp 84) (x := .tmp 99) (T := 38) rfl (by rw [eval_tmp]; exact f84) (by rw [eval_tmp]; exact f99) HRUN.out HF.out
            | 18, _ =>
              obtain rfl := Option.some.inj ho
              intro a9 dn vals wx hJ0 hdi hde hdj hev hsl hun
              have hJ := Lib.hid hJ0
              rw [if_pos (wanted_none rfl)]
              have f9 : (a9.tmps[9]?).getD undef = .pointer (some ⟨w1.heap.size, 0, none⟩) := hev 9 (by kernel_rfl)
              clear hde hdj hev hsl hun hJ0 hdi
              go_simp
              exact hJ.out.read (by decide) (by decide) (by decide) rfl (Below.refl _ _) (HNX.out wx hJ.out.below)
            | 19, _ =>
              obtain rfl := Option.some.inj ho
              intro a9 dn vals wx hJ0 hdi hde hdj hev hsl hun
              have hJ := Lib.hid hJ0
              rw [if_pos (wanted_none rfl)]
              have f101 : (a9.tmps[101]?).getD undef = .pointer (some ⟨w1.heap.size, 1, none⟩) := (hsl 18 101 (hde 0 _ rfl rfl) rfl).trans (hJ.out.fv 18 _ rfl (hde 0 _ rfl rfl))
              obtain ⟨b4, cp4, e4⟩ := hJ.out.fa (hde 1 _ rfl rfl)
              have f100 : (a9.tmps[100]?).getD undef = .slice (some ⟨b4, 0, none⟩) (hi.length + 1) cp4 := (hsl 17 100 (hde 1 _ rfl rfl) rfl).trans e4
              have d17 : Hid (dn 17 = true) := hde 1 _ rfl rfl
              have hS := hJ.out.s1 d17.out hdi
              obtain ⟨k0, k1, k2, k3⟩ := hS.res
              have HF := Lib.hid (fun v => hJ.out.store (v := v) (by decide) rfl HGN.out d17.out hdi e4)
              clear hde hdj hev hsl hun hJ0 hdi
              clear hS e4
              go_simp
              exact HF.out _
          · intro dn vals wx hall hJ
            have hS := hJ.s2 (hall 17 (by decide)) (hall 19 (by decide))
            obtain ⟨b4, cp4, g17⟩ := hJ.fa (hall 17 (by decide))
            rw [g17] at hS
            have g0 := hJ.fv 0 _ rfl (hall 0 (by decide))
            have g1 := hJ.fv 1 _ rfl (hall 1 (by decide))
            have g2 := hJ.fv 2 _ rfl (hall 2 (by decide))
            have g3 := hJ.fv 3 _ rfl (hall 3 (by decide))
            have g4 := hJ.fv 4 _ rfl (hall 4 (by decide))
            have g5 := hJ.fv 5 _ rfl (hall 5 (by decide))
            have g6 := hJ.fv 6 _ rfl (hall 6 (by decide))
            have g7 := hJ.fv 7 _ rfl (hall 7 (by decide))
            have g8 := hJ.fv 8 _ rfl (hall 8 (by decide))
            have g9 := hJ.fv 9 _ rfl (hall 9 (by decide))
            have g10 := hJ.fv 10 _ rfl (hall 10 (by decide))
            have g11 := hJ.fv 11 _ rfl (hall 11 (by decide))
            have g12 := hJ.fv 12 _ rfl (hall 12 (by decide))
            have g13 := hJ.fv 13 _ rfl (hall 13 (by decide))
            have g14 := hJ.fv 14 _ rfl (hall 14 (by decide))
            have g15 := hJ.fv 15 _ rfl (hall 15 (by decide))
            have g18 := hJ.fv 18 _ rfl (hall 18 (by decide))
            have HS9 := Lib.hid hS.to
            have HB9 := Lib.hid hJ.below
            simp only [putDs, Act.put, Nat.zero_add, Nat.reduceAdd, List.setIfInBounds_toArray, List.set_cons_succ, List.set_cons_zero, g17, g0, g1, g2, g3, g4, g5, g6, g7, g8, g9, g10, g11, g12, g13, g14, g15, g18]
            clear g17 g0 g1 g2 g3 g4 g5 g6 g7 g8 g9 g10 g11 g12 g13 g14 g15 g18 hS hJ hall
            have HF9 := Lib.hid (And.intro HS9.out (HB4.out.trans HB9.out))
            clear w5 w7 HS9 HB9
            go_wp2
            refine ⟨⟨i + 1, _, _, _, _, by omega, by go_num, ?_, HWN.out, HF9.out.1, HF9.out.2⟩, by show d.length - _ < d.length - _; simp [intOf]; omega⟩
            exact ⟨by rw [List.length_append, HLN.out.1]; rfl, by rw [List.length_append, HLN.out.2]; rfl⟩
    · obtain rfl : i = d.length := by omega
      have hn := HN.out
      rw [List.drop_length, widR] at hn
      · have HWS : Hid (W9 = some (lo, hi)) := hn.symm
        obtain ⟨⟨f0, f1, f2, f3⟩, ow1, ow2, hap, htg⟩ := HBO.out
        have h1 := RowZ.append_owns ow1 rfl
        have h2 := RowZ.append_owns ow2 rfl
        have H1 := Lib.hid h1
        have H2 := Lib.hid h2
        obtain ⟨q1, k1, e1, -⟩ := h1.ints.shape
        obtain ⟨q2, k2, e2, -⟩ := h2.ints.shape
        have hlt2 : w.heap.size + 1 < wr.heap.size := World.block_lt_of_cell? _ _ r0
        have hltg : w.heap.size + 1 < w1.heap.size := by have : w.heap.size + 2 ≤ w1.heap.size := HS1.out; omega
        have HNG : Hid (∀ (v : Value) (n : Nat) (xs : List Value), wr.ownsRow w1.heap.size 3 1 v n xs → ∀ b, v.ownBlock = some b → b ≠ w.heap.size + 1) := fun v n xs h b hb => by
          have := (h.lt b hb).1
          omega
        have HK1 := Lib.hid (HNG.out v1 _ _ ow1)
        have O1 := Lib.hid (ownsRow_base ow1 (show w.heap.size ≤ w1.heap.size by omega))
        have O2 := Lib.hid (ownsRow_base ow2 (show w.heap.size ≤ w1.heap.size by omega))
        have HAP := Lib.hid hap
        have HK2 := Lib.hid (HNG.out v2 _ _ ow2)
        clear hn hbo hb ow1 ow2 hap htg h1 h2
        subst e1 e2
        go_wp2
        refine bodyPost_ret (by simp [results, Tryz.results33, go_sem, r0, r1]; try rfl) rfl ?_
        rw [HR.out, HWS.out]
        have nk : ∀ (x : Value), (∀ b, x.ownBlock = some b → b ≠ w.heap.size + 1) → x.ownBlock = none ∨ x.ownBlock ≠ some (w.heap.size + 1) := fun x hne => by
          cases hv : x.ownBlock with
          | none => exact .inl rfl
          | some b => exact .inr fun e => hne b hv (by injection e)
        have hk : ∀ (x : Value) (l : List Int) (u u' : Value), wr.ownsRow w.heap.size 3 1 x l.length (l.map (Value.int .i64)) → (∀ b, x.ownBlock = some b → b ≠ w.heap.size + 1) → ((wr.setCell ⟨w.heap.size + 1, 0, none⟩ u).setCell ⟨w.heap.size + 1, 1, none⟩ u').ownsRow w.heap.size 3 1 x l.length (l.map (Value.int .i64)) := fun x l u u' h hne =>
          (h.kept (grown_setG wr (w.heap.size + 1) 0 u) (nk x hne)).kept (grown_setG _ (w.heap.size + 1) 1 u') (nk x hne)
        exact ⟨_, _, rfl, hk _ _ _ _ O1.out HK1.out, hk _ _ _ _ O2.out HK2.out, HAP.out, (HBW.out.setCell (by simp) _).setCell (by simp) _⟩
      · intro a1 a2 a3 a4 a5 a6 a7 a8 h9
        cases h9
theorem rcore_any (d : List DimT) (l : LayT) (c : List Int) (vd vs vo vc : Value) (w : World) (hd : Dims w vd d) (hl : LayR w vs vo l) (hc : Ints w vc c) (hs : StrD d) (hb : ∀ x ∈ c, -9223372036854775808 ≤ x ∧ x ≤ 9223372036854775807) :
    Calls Tryz.prog 33 #[vd, layV vs vo l, vc] w (RetBo (widQ d l c false) (widE d l c false) w) := by
  unfold widQ widE
  by_cases h : layoutE d l = 0
  · rw [if_neg (show ¬ (layoutE d l ≠ 0) from fun h' => h' h), if_neg (show ¬ (layoutE d l ≠ 0) from fun h' => h' h)]
    by_cases h2 : c.length = d.length
    · rw [if_neg (show ¬ (c.length ≠ d.length) from fun h' => h' h2), if_neg (show ¬ (c.length ≠ d.length) from fun h' => h' h2)]
      exact rcore_core d l c vd vs vo vc w hd hl hc hs h h2 hb
    · rw [if_pos h2, if_pos h2]
      exact rcore_shape d l c vd vs vo vc w hd hl hc hs h h2
  · rw [if_pos h, if_pos h]
    exact rcore_bad d l c vd vs vo vc w hd hl hc hs h
/-- a box's list that may be read -/
theorem RetBo.bx {b : List Int × List Int} {r : Int} {w w' : World} {e : Ending} (h : RetBo b r w e w') : RetBx b r w e w' := by
  obtain ⟨v1, v2, he, o1, o2, -, hb⟩ := h
  exact ⟨v1, v2, he, RowZ.append_owns o1 rfl, RowZ.append_owns o2 rfl, hb⟩
end Go.Proofs.YtpdhlgkcjakcgaaGreatDoor
