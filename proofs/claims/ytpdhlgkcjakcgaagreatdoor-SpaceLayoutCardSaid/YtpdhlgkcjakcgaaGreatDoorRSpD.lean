/- The reference of layer 2, contracts: Of, Cell. -/
import Derived.BigQuiet
import Derived.Test.YtpdhlgkcjakcgaaGreatDoorS18
import Derived.Test.YtpdhlgkcjakcgaaGreatDoorS5

namespace Go.Proofs.YtpdhlgkcjakcgaaGreatDoor
open Go.RowKit

theorem rof_short (d : List DimT) (c : List Int) (v u : Value) (w : World) (hd : Dims w v d) (hc : Ints w u c) (h : c.length ≠ d.length) :
    Calls Tryz.prog 83 #[v, u] w (RetV' (.bool false) w) := by
  obtain ⟨a, cap, rfl, c1, c2⟩ := hd.shape
  obtain ⟨a', cap', rfl, c1', c2'⟩ := hc.shape
  have h2 : ((c.length : Int) != d.length) = true := by rw [bne_iff_ne]; omega
  clear hd hc h
  go_enter Tryz.func83, Tryz.ntmps83
  go_wp2
  go_ret
  exact ⟨rfl, Below.refl _ _⟩
set_option maxHeartbeats 3200000 in
set_option maxRecDepth 100000 in
theorem rof_core (d : List DimT) (c : List Int) (v u : Value) (w : World) (hd : Dims w v d) (hc : Ints w u c) (h : c.length = d.length) :
    Calls Tryz.prog 83 #[v, u] w (RetV' (.bool (ofL d c)) w) := by
  have HD := Lib.hid hd
  have HC := Lib.hid hc
  have HL := Lib.hid h
  have hl := hd.len
  obtain ⟨a, cap, rfl, c1, c2⟩ := hd.shape
  obtain ⟨a', cap', rfl, c1', c2'⟩ := hc.shape
  obtain ⟨R, hR⟩ : ∃ R, R = ofL d c := ⟨_, rfl⟩
  rw [← hR]
  have HR0 := Lib.hid hR
  simp only [h] at c1' HC ⊢
  clear hd hc h hR
  go_enter Tryz.func83, Tryz.ntmps83
  go_wp2
  go_loopw [5] (fun iv wr => ∃ i : Nat, i ≤ d.length ∧ iv = .int .i64 (i : Nat) ∧ Hid (ofL (d.drop i) (c.drop i) = R) ∧ Below w.heap.size w wr) (fun iv _ => d.length - (intOf iv).toNat)
  case atStart => exact ⟨0, Nat.zero_le _, rfl, HR0.out.symm, Below.refl _ _⟩
  case round =>
    obtain ⟨i, hi, rfl, HN, hb⟩ := hrel
    have HB := Lib.hid hb
    have HDW := Lib.hid (HD.out.later DimR.lasts hb)
    have HCW := Lib.hid (HC.out.later IntR.lasts hb)
    clear hb
    by_cases hlt : i < d.length
    · obtain ⟨g, o, x, ea, hx, hr⟩ := HDW.out.at i hlt
      obtain ⟨g', o', y, ea', hy, hr'⟩ := HCW.out.at i (by rw [HL.out]; exact hlt)
      subst ea ea'
      obtain ⟨x0, x1, x2⟩ := hr
      rw [Nat.mul_one] at hr'
      unfold IntR at hr'
      have hn := HN.out
      rw [ofL_drop hx hy] at hn
      have HNN := Lib.hid hn
      have HI1 : Hid (i + 1 ≤ d.length) := hlt
      have HI2 : Hid (d.length - (i + 1) < d.length - i) := by show _ < _; omega
      have ib0 : (0 : Int) ≤ (i : Int) := by omega
      have ib1 : (i : Int) < (d.length : Int) := by omega
      obtain ⟨nm, lo, hi'⟩ := x
      simp only at x0 x1 x2
      have CL := Lib.hid (fun w1 => rlast_any ⟨nm, lo, hi'⟩ w1)
      generalize hL : DimT.last ⟨nm, lo, hi'⟩ = L at CL HNN
      simp only at HNN
      clear hL hx hy hn HN
      by_cases h1 : y < lo
      · have HR : Hid (R = false) := by show _ = _; rw [← HNN.out, if_pos (.inl h1)]
        have t1 : decide (y < lo) = true := decide_eq_true h1
        clear h1
        go_wp2_with fail
        go_quiet (fail)
        go_wp2
        go_ret
        rw [HR.out]
        exact ⟨rfl, below_keep HB.out (below_drewN' _ _)⟩
      · have t1 : decide (y < lo) = false := decide_eq_false h1
        have K : Hid (∀ w', Below wr.heap.size wr w' → w'.cell? ⟨g', o' + i, none⟩ = some (.int .i64 y) ∧ w'.cell? ⟨g, o + i * 3, none⟩ = some (.string ⟨nm.toArray⟩) ∧ w'.cell? ⟨g, o + i * 3 + 1, none⟩ = some (.int .i64 lo) ∧ w'.cell? ⟨g, o + i * 3 + 2, none⟩ = some (.int .i64 hi') ∧ Below wr.heap.size wr w') := fun w' h => ⟨cell_later hr' h, cell_later x0 h, cell_later x1 h, cell_later x2 h, h⟩
        have HJ : Hid (if L < y then R = false else ofL (d.drop (i + 1)) (c.drop (i + 1)) = R) := by
          show ite _ _ _
          split
          · rename_i h2; rw [← HNN.out, if_pos (.inr h2)]
          · rename_i h2; rw [← HNN.out, if_neg (fun h => h.elim h1 h2)]
        clear h1 x0 x1 x2 hr' HNN
        go_wp2_with fail
        go_region_held3 (fun w' => w'.cell? ⟨g', o' + i, none⟩ = some (.int .i64 y) ∧ w'.cell? ⟨g, o + i * 3, none⟩ = some (.string ⟨nm.toArray⟩) ∧ w'.cell? ⟨g, o + i * 3 + 1, none⟩ = some (.int .i64 lo) ∧ w'.cell? ⟨g, o + i * 3 + 2, none⟩ = some (.int .i64 hi') ∧ Below wr.heap.size wr w')
          (first | exact K.out _ (Below.refl _ _).drew | exact K.out _ (by assumption))
          ((go_at_call 88; refine (CL.out _).mono ?_; rintro e w2 ⟨rfl, hb2⟩; have hb3 : Below wr.heap.size wr w2 := below_keep (Below.refl _ _).drew hb2))
        all_goals
          have HB3 := Lib.hid (HB.out.trans (hb3.mono HB.out.size))
          clear hb2 hb3 CL
          by_cases h2 : L < y
          · have hj := HJ.out
            rw [if_pos h2] at hj
            have HR := Lib.hid hj
            clear hj HJ
            go_wp2
            go_ret
            rw [HR.out]
            exact ⟨rfl, HB3.out⟩
          · have hj := HJ.out
            rw [if_neg h2] at hj
            have HR := Lib.hid hj
            clear hj HJ
            go_wp2
            exact ⟨⟨i + 1, HI1.out, by go_num, HR.out, HB3.out⟩, HI2.out⟩
    · obtain rfl : i = d.length := by omega
      have hn := HN.out
      rw [List.drop_length, ofL] at hn
      · have HNN := Lib.hid hn
        clear hn HN
        go_wp2
        go_ret
        rw [← HNN.out]
        exact ⟨rfl, HB.out⟩
      · intro _ _ _ _ h; cases h
theorem rof_any (d : List DimT) (c : List Int) (v u : Value) (w : World) (hd : Dims w v d) (hc : Ints w u c) :
    Calls Tryz.prog 83 #[v, u] w (RetV' (.bool (ofB d c)) w) := by
  unfold ofB
  by_cases h : c.length = d.length
  · rw [decide_eq_true h, Bool.true_and]
    exact rof_core d c v u w hd hc h
  · rw [decide_eq_false h, Bool.false_and]
    exact rof_short d c v u w hd hc h
end Go.Proofs.YtpdhlgkcjakcgaaGreatDoor
