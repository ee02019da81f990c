/- Boxes: Has, of the program and of the reference. -/
import Derived.BigQuiet
import Derived.Test.YtkliekoheeeamaaGreatDoorS10
namespace Go.Proofs.YtkliekoheeeamaaGreatDoor
open Go.RowKit

/-- whether a coordinate is not above an upper bound -/
def upB (x h : Int) : Bool := decide (x ≤ h ∨ 1073741825 ≤ h)
theorem upTo_any (x h : Int) (w : World) : Calls Tryz.prog 61 #[.int .i64 x, .int .i64 h] w (fun e w' => e = .returned (.bool (upB x h)) ∧ w' = w) := by
 unfold upB
 by_cases h1 : x ≤ h
 ·rw [decide_eq_true (.inl h1)]
  go_enter Tryz.func61, Tryz.ntmps61
  go_wp2
  go_ret
  exact ⟨rfl, rfl⟩
 ·rw [show decide (x ≤ h ∨ 1073741825 ≤ h) = decide (1073741825 ≤ h) from by rw [decide_eq_decide]; exact ⟨fun h => h.resolve_left h1, .inr⟩]
  go_enter Tryz.func61, Tryz.ntmps61
  go_wp2
  go_ret
  exact ⟨rfl, rfl⟩
theorem rformed_any (vlo vhi : Value) (lo hi : List Int) (w : World) (hlo : Ints w vlo lo) (hhi : Ints w vhi hi) : Calls Tryz.prog 39 #[.agg #[vlo, vhi]] w (RetV' (.bool (formedB lo hi)) w) := by
 obtain ⟨a1, c1, rfl, -⟩ := hlo.shape
 obtain ⟨a2, c2, rfl, -⟩ := hhi.shape
 unfold formedB
 generalize lo.length = m
 generalize hi.length = n
 clear hlo hhi
 by_cases h1 : m = n
 ·subst h1
  by_cases h2 : 0 < m
  ·rw [decide_eq_true rfl, decide_eq_true h2, Bool.true_and, Bool.true_and]
   have h2' : (1 : Int) ≤ (m : Int) := by omega
   by_cases h3 : m ≤ 4
   ·rw [decide_eq_true h3]
    have h3' : (m : Int) ≤ 4 := by omega
    go_enter Tryz.func39, Tryz.ntmps39
    go_wp2
    go_ret
    exact ⟨ret_bool (by simp), below_alloc _ _⟩
   ·rw [decide_eq_false h3]
    have h3' : ¬ (m : Int) ≤ 4 := by omega
    go_enter Tryz.func39, Tryz.ntmps39
    go_wp2
    go_ret
    exact ⟨ret_bool (by simp), below_alloc _ _⟩
  ·rw [decide_eq_false h2, Bool.and_false, Bool.false_and]
   obtain rfl : m = 0 := by omega
   go_enter Tryz.func39, Tryz.ntmps39
   go_wp2
   go_ret
   exact ⟨ret_bool (by simp), below_alloc _ _⟩
 ·rw [decide_eq_false h1, Bool.false_and, Bool.false_and]
  have h1' : ((m : Int) == n) = false := by rw [beq_eq_false_iff_ne]; omega
  go_enter Tryz.func39, Tryz.ntmps39
  go_wp2
  go_ret
  exact ⟨ret_bool (by simp), below_alloc _ _⟩

/-- whether coordinates are in a box -/
def hasL : List Int → List Int → List Int → Bool
 | l :: ls, h :: hs, x :: xs => if x < l ∨ upB x h = false then false else hasL ls hs xs
 | _, _, _ => true
def hasB (lo hi c : List Int) : Bool := formedB lo hi && decide (c.length = lo.length) && hasL lo hi c
theorem hasL_drop {lo hi c : List Int} {i : Nat} {a b x : Int} (ha : lo[i]? = some a) (hb : hi[i]? = some b) (hx : c[i]? = some x) :
  hasL (lo.drop i) (hi.drop i) (c.drop i) = if x < a ∨ upB x b = false then false else hasL (lo.drop (i + 1)) (hi.drop (i + 1)) (c.drop (i + 1)) := by
 rw [drop_cons ha, drop_cons hb, drop_cons hx, hasL]
theorem box_at (w : World) (v1 v2 : Value) : ∃ W1, W1 = w.alloc (.cells #[v1, v2] 26) ∧ Below w.heap.size w W1 ∧ ∀ w', Below W1.heap.size W1 w' → w'.cell? ⟨w.heap.size, 0, none⟩ = some v1 ∧ w'.cell? ⟨w.heap.size, 1, none⟩ = some v2 ∧ Below W1.heap.size W1 w' := by
 refine ⟨_, rfl, below_alloc _ _, fun w' hb => ?_⟩
 have hc : ∀ j, w'.cell? ⟨w.heap.size, j, none⟩ = (w.alloc (.cells #[v1, v2] 26)).cell? ⟨w.heap.size, j, none⟩ := fun j => hb.cell (p := ⟨w.heap.size, j, none⟩) (by simp)
 refine ⟨?_, ?_, hb⟩ <;> (rw [hc, World.cell?_alloc_at _ _ _ _ rfl]; rfl)
theorem has_bad (vlo vhi u : Value) (lo hi c : List Int) (w : World) (hlo : Ints w vlo lo) (hhi : Ints w vhi hi) (hc : Ints w u c) (h : formedB lo hi = false ∨ c.length ≠ lo.length) :
  Calls Tryz.prog 46 #[.agg #[vlo, vhi], u] w (RetV' (.bool false) w) := by
 have CF := Lib.hid (fun w1 (hb : Below w.heap.size w w1) => formed_any vlo vhi lo hi w1 (hlo.later IntR.lasts hb) (hhi.later IntR.lasts hb))
 obtain ⟨a1, c1, rfl, -⟩ := hlo.shape
 obtain ⟨a2, c2, rfl, -⟩ := hhi.shape
 obtain ⟨a3, c3, rfl, -⟩ := hc.shape
 obtain ⟨W1, hW1, hb1, hbx⟩ := box_at w (.slice a1 lo.length c1) (.slice a2 hi.length c2)
 have HB1 := Lib.hid hb1
 have HBX := Lib.hid hbx
 clear hlo hhi hc hb1 hbx
 cases hf : formedB lo hi with
 | false =>
  rw [hf] at CF
  clear hf h
  go_enter Tryz.func46, Tryz.ntmps46
  go_wp2_with fail
  refine (CF.out _ (below_alloc _ _)).mono ?_
  rintro e w2 ⟨rfl, hb⟩
  rw [← hW1] at hb
  have HB2 := Lib.hid hb
  clear hb hW1 CF
  go_wp2
  go_ret
  exact ⟨rfl, below_keep HB1.out HB2.out⟩
 | true =>
  have h2 : ((c.length : Int) != lo.length) = true := by
   rw [bne_iff_ne]
   rcases h with h | h
   ·rw [hf] at h; cases h
   ·omega
  rw [hf] at CF
  clear hf h
  go_enter Tryz.func46, Tryz.ntmps46
  go_wp2_with fail
  refine (CF.out _ (below_alloc _ _)).mono ?_
  rintro e w2 ⟨rfl, hb⟩
  rw [← hW1] at hb
  have HB2 := Lib.hid hb
  obtain ⟨d0, d1, -⟩ := HBX.out w2 hb
  clear hb hW1 CF
  go_wp2
  go_ret
  exact ⟨rfl, below_keep HB1.out HB2.out⟩
set_option maxHeartbeats 3200000 in
set_option maxRecDepth 100000 in
theorem has_core (vlo vhi u : Value) (lo hi c : List Int) (w : World) (hlo : Ints w vlo lo) (hhi : Ints w vhi hi) (hc : Ints w u c) (hf : formedB lo hi = true) (h : c.length = lo.length) :
  Calls Tryz.prog 46 #[.agg #[vlo, vhi], u] w (RetV' (.bool (hasL lo hi c)) w) := by
 have CF := Lib.hid (fun w1 (hb : Below w.heap.size w w1) => formed_any vlo vhi lo hi w1 (hlo.later IntR.lasts hb) (hhi.later IntR.lasts hb))
 rw [hf] at CF
 have hl2 : hi.length = lo.length := by
  unfold formedB at hf
  simp only [Bool.and_eq_true, decide_eq_true_eq] at hf
  exact hf.1.1.symm
 have HLO := Lib.hid hlo
 have HHI := Lib.hid hhi
 have HC := Lib.hid hc
 have HL := Lib.hid h
 have HL2 := Lib.hid hl2
 obtain ⟨a1, c1, rfl, k1, k1'⟩ := hlo.shape
 obtain ⟨a2, c2, rfl, -⟩ := hhi.shape
 obtain ⟨a3, c3, rfl, -⟩ := hc.shape
 simp only [h, hl2] at CF HHI HC ⊢
 obtain ⟨R, hR⟩ : ∃ R, R = hasL lo hi c := ⟨_, rfl⟩
 rw [← hR]
 have HR0 := Lib.hid hR
 obtain ⟨W1, hW1, hb1, hbx⟩ := box_at w (.slice a1 lo.length c1) (.slice a2 lo.length c2)
 have HB1 := Lib.hid hb1
 have HBX := Lib.hid hbx
 clear hlo hhi hc hb1 hbx h hl2 hR hf
 go_enter Tryz.func46, Tryz.ntmps46
 go_wp2_with fail
 refine (CF.out _ (below_alloc _ _)).mono ?_
 rintro e w2 ⟨rfl, hb⟩
 rw [← hW1] at hb
 have HB2 := Lib.hid hb
 obtain ⟨d0, d1, -⟩ := HBX.out w2 hb
 clear hb hW1 CF
 go_wp2
 clear d0 d1
 go_loopw [20] (fun iv wr => ∃ i : Nat, i ≤ lo.length ∧ iv = .int .i64 (i : Nat) ∧ Hid (hasL (lo.drop i) (hi.drop i) (c.drop i) = R) ∧ Below W1.heap.size W1 wr) (fun iv _ => lo.length - (intOf iv).toNat)
 case atStart => exact ⟨0, Nat.zero_le _, rfl, HR0.out.symm, HB2.out⟩
 case round =>
  obtain ⟨i, hi0, rfl, HN, hb⟩ := hrel
  have HBR := Lib.hid hb
  obtain ⟨d0, d1, -⟩ := HBX.out wr hb
  have HBW := Lib.hid (below_keep HB1.out hb)
  clear hb
  by_cases hlt : i < lo.length
  ·obtain ⟨g1, o1, x, ea1, hx, hr1⟩ := (HLO.out.later IntR.lasts HBW.out).at i hlt
   obtain ⟨g2, o2, y, ea2, hy, hr2⟩ := (HHI.out.later IntR.lasts HBW.out).at i (by rw [HL2.out]; exact hlt)
   obtain ⟨g3, o3, z, ea3, hz, hr3⟩ := (HC.out.later IntR.lasts HBW.out).at i (by rw [HL.out]; exact hlt)
   subst ea1 ea2 ea3
   rw [Nat.mul_one] at hr1 hr2 hr3
   unfold IntR at hr1 hr2 hr3
   have hn := HN.out
   rw [hasL_drop hx hy hz] at hn
   have HNN := Lib.hid hn
   have HI1 : Hid (i + 1 ≤ lo.length) := hlt
   have HI2 : Hid (lo.length - (i + 1) < lo.length - i) := by show _ < _; omega
   have ib0 : (0 : Int) ≤ (i : Int) := by omega
   have ib1 : (i : Int) < (lo.length : Int) := by omega
   have CU := Lib.hid (fun w1 => upTo_any z y w1)
   obtain ⟨U, hU⟩ : ∃ U, U = upB z y := ⟨_, rfl⟩
   rw [← hU] at CU HNN
   clear hx hy hz hn HN hU
   by_cases h1 : z < x
   ·have HR : Hid (R = false) := by show _ = _; rw [← HNN.out, if_pos (.inl h1)]
    go_wp2
    go_ret
    rw [HR.out]
    exact ⟨rfl, HBW.out⟩
   ·have H1 := Lib.hid h1
    go_wp2_with fail
    refine (CU.out _).mono ?_
    rintro e w3 ⟨rfl, rfl⟩
    cases U with
    | false =>
     have HR : Hid (R = false) := by show _ = _; rw [← HNN.out, if_pos (.inr rfl)]
     go_wp2
     go_ret
     rw [HR.out]
     exact ⟨rfl, HBW.out⟩
    | true =>
     have HR : Hid (hasL (lo.drop (i + 1)) (hi.drop (i + 1)) (c.drop (i + 1)) = R) := by show _ = _; rw [← HNN.out, if_neg (fun hh => hh.elim (fun h9 => by have := H1.out; omega) (fun h => by cases h))]
     go_wp2
     exact ⟨⟨i + 1, HI1.out, by go_num, HR.out, HBR.out⟩, HI2.out⟩
  ·obtain rfl : i = lo.length := by omega
   have hn := HN.out
   rw [List.drop_length, hasL] at hn
   ·have HNN := Lib.hid hn
    clear hn HN
    go_wp2
    go_ret
    rw [← HNN.out]
    exact ⟨rfl, HBW.out⟩
   ·intro _ _ _ _ _ _ h; cases h
theorem has_any (vlo vhi u : Value) (lo hi c : List Int) (w : World) (hlo : Ints w vlo lo) (hhi : Ints w vhi hi) (hc : Ints w u c) :
  Calls Tryz.prog 46 #[.agg #[vlo, vhi], u] w (RetV' (.bool (hasB lo hi c)) w) := by
 unfold hasB
 cases hf : formedB lo hi with
 | false =>
  rw [Bool.false_and, Bool.false_and]
  exact has_bad vlo vhi u lo hi c w hlo hhi hc (.inl hf)
 | true =>
  by_cases h : c.length = lo.length
  ·rw [decide_eq_true h, Bool.true_and, Bool.true_and]
   exact has_core vlo vhi u lo hi c w hlo hhi hc hf h
  ·rw [decide_eq_false h, Bool.and_false, Bool.false_and]
   exact has_bad vlo vhi u lo hi c w hlo hhi hc (.inr h)
end Go.Proofs.YtkliekoheeeamaaGreatDoor
