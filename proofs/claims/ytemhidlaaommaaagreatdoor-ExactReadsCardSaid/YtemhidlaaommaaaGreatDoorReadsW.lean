/- ExactReads: the walk. -/
import Derived.Test.YtemhidlaaommaaaGreatDoorRefY
import Derived.Test.YtemhidlaaommaaaGreatDoorW1
namespace Go.Proofs.YtemhidlaaommaaaGreatDoor
open Go.RowKit

theorem reads_any (s : ByteArray) (w : World) (hm : Ml w) (_ : s.size ≤ maxLen) :
    Calls Tryz.prog 6 #[.string s] w (RetV (.bool true) w) := by
  have HM := Lib.hid (fun w1 (h : Below w.heap.size w w1) => works_any w1 (hm.later h))
  by_cases h : s.size ≤ 400
  · have C := read_any s w hm (by omega)
    have D := fun w1 => rread_any s w1 (by omega)
    obtain ⟨k, n, d, S, z, hx⟩ : ∃ (k n d : Int) (S : ByteArray) (z : Int), readE (readM s.data.toList) = .tuple #[.agg #[.int .i64 k, .int .i64 n, .int .i64 d, .string S], .int .i64 z] := by
      unfold readE
      split
      · exact ⟨_, _, _, _, _, rfl⟩
      · exact ⟨_, _, _, _, _, rfl⟩
    rw [hx] at C
    simp only [hx] at D
    have C := Lib.hid C
    have D := Lib.hid D
    have h4 : decide ((400 : Int) < (s.size : Int)) = false := by rw [decide_eq_false_iff_not]; omega
    rename_i C' D'
    clear C' D' hm h hx
    go_enter Tryz.func6, Tryz.ntmps6
    go_wp2_with fail
    refine C.out.mono ?_
    rintro e w1 ⟨rfl, hb⟩
    have HB1 := Lib.hid (hb.alloc hb.size (.cells #[.int .i64 k, .int .i64 n, .int .i64 d, .string S] 45))
    have hlt : w1.heap.size < w1.heap.size + 1 := by omega
    have K : Hid (∀ w2, Below (w1.alloc (.cells #[.int .i64 k, .int .i64 n, .int .i64 d, .string S] 45)).heap.size (w1.alloc (.cells #[.int .i64 k, .int .i64 n, .int .i64 d, .string S] 45)) w2 →
        w2.cell? ⟨w1.heap.size, 0, none⟩ = some (.int .i64 k) ∧ w2.cell? ⟨w1.heap.size, 1, none⟩ = some (.int .i64 n) ∧ w2.cell? ⟨w1.heap.size, 2, none⟩ = some (.int .i64 d) ∧ w2.cell? ⟨w1.heap.size, 3, none⟩ = some (.string S) ∧ w1.heap.size < w2.heap.size) := fun w2 hb => by
      have hs := hb.size
      rw [World.size_alloc] at hs
      refine ⟨?_, ?_, ?_, ?_, by omega⟩ <;> (refine (hb.cell (p := ⟨w1.heap.size, _, none⟩) (by rw [World.size_alloc]; exact hlt)).trans ?_; rw [World.cell?_alloc_at _ _ _ _ rfl]; rfl)
    clear hb C hlt
    go_wp2_with fail
    refine (D.out _).mono ?_
    rintro e w2 ⟨rfl, hb⟩
    obtain ⟨k0, k1, k2, k3, k4⟩ := K.out _ hb
    have k5 : w1.heap.size ≠ w2.heap.size := by omega
    have hB2 := below_keep HB1.out hb
    have HB2 := Lib.hid (hB2.alloc hB2.size (.cells #[.int .i64 k, .int .i64 n, .int .i64 d, .string S] 45))
    have C3 := Lib.hid (HM.out _ HB2.out)
    clear hb K D hB2
    go_wp2_with fail
    refine C3.out.mono ?_
    rintro e w3 ⟨rfl, hb⟩
    have HB3 := Lib.hid (below_keep HB2.out hb)
    clear hb
    go_wp2
    go_ret
    exact ⟨rfl, HB3.out⟩
  · have C := Lib.hid (HM.out _ (Below.refl _ _))
    have h4 : decide ((400 : Int) < (s.size : Int)) = true := by rw [decide_eq_true_eq]; omega
    clear hm h HM
    go_enter Tryz.func6, Tryz.ntmps6
    go_wp2_with fail
    refine C.out.mono ?_
    rintro e w1 ⟨rfl, hb⟩
    go_wp2
    go_ret
    exact ⟨rfl, hb⟩
end Go.Proofs.YtemhidlaaommaaaGreatDoor
