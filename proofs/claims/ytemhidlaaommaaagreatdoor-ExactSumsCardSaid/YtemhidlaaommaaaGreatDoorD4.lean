/- Contracts: the results of operations (5): the logic. -/
import Derived.Test.YtemhidlaaommaaaGreatDoorD1
namespace Go.Proofs.YtemhidlaaommaaaGreatDoor
open Go.RowKit

set_option maxHeartbeats 1600000 in
theorem logA_false (y : Va) (v : Value) (c : Nat) (w : World) (hv : VaL w v [⟨1, 0, 0, []⟩, y]) (hc : w.cell? ⟨c, 0, none⟩ = some (.bool false)) :
    Calls Tryz.prog 211 #[v, .pointer (some ⟨c, 0, none⟩)] w (RetX w.heap.size (truthV false) w) := by
  obtain ⟨g, o, cap, rfl, h0, h3, h1, h2⟩ := hv.two
  have hg := h0.lt
  have hc1 := World.block_lt_of_cell? w ⟨c, 0, none⟩ hc
  simp only at hc1
  have K : ∀ w' : World, Below w.heap.size w w' → (w'.cell? ⟨c, 0, none⟩ = some (.bool false) ∧ w'.cell? ⟨g, o, none⟩ = some (.int .i64 1) ∧ w'.cell? ⟨g, o + 1, none⟩ = some (.int .i64 0) ∧ w'.cell? ⟨g, o + 2, none⟩ = some (.int .i64 0) ∧ w'.cell? ⟨g, o + 3, none⟩ = some (.string ⟨#[]⟩) ∧ w'.cell? ⟨g, o + 4, none⟩ = some (.int .i64 y.kind) ∧ w'.cell? ⟨g, o + 5, none⟩ = some (.int .i64 y.num) ∧ w'.cell? ⟨g, o + 6, none⟩ = some (.int .i64 y.den) ∧ w'.cell? ⟨g, o + 7, none⟩ = some (.string ⟨y.str.toArray⟩) ∧ Below w.heap.size w w') := fun w1 hb =>
    let b1 := h0.later hb hg; let b2 := h3.later hb hg
    ⟨(hb.cell (p := ⟨c, 0, none⟩) hc1).trans hc, b1.kind, b1.num, b1.den, b1.str, b2.kind, b2.num, b2.den, b2.str, hb⟩
  have HR := Lib.hid (ResV.made w 45)
  obtain ⟨W, hW⟩ : ∃ W, W = w.alloc (.cells #[.int .i64 0, .int .i64 0, .int .i64 0, .string ⟨#[]⟩] 45) := ⟨_, rfl⟩
  rw [← hW] at HR
  have hB : Below w.heap.size w W := by rw [hW]; exact below_alloc _ _
  have hlt : w.heap.size < W.heap.size := by rw [hW]; simp
  have HLT := Lib.hid hlt
  have hbd : Below w.heap.size w W.drew := hB.drew
  have hbW : Below W.heap.size W W.drew := (Below.refl _ _).drew
  obtain ⟨k8, k0, k1, k2, k3, k4, k5, k6, k7, -⟩ := K W hB
  have K := Lib.hid K
  have C1 := Lib.hid (fun w1 => (show Calls Tryz.prog 91 #[.bool false] w1 (fun e w' => e = .returned (.agg #[.int .i64 1, .int .i64 0, .int .i64 0, .string ⟨#[]⟩]) ∧ Below w1.heap.size w1 w') from truth_any false w1))
  have HG := Lib.hid hg
  have HC1 := Lib.hid hc1
  rename_i K'
  clear K' h0 h3 hc hv
  go_enter Tryz.func211, Tryz.ntmps211
  go_wp2_with fail
  rw [← hW]
  clear hW
  first
    | go_region_with (go_at_call 91; refine (C1.out _).mono ?_; rintro e w2 ⟨rfl, hb1⟩; have hB1 := below_keep hbd hb1; obtain ⟨k8, k0, k1, k2, k3, k4, k5, k6, k7, -⟩ := K.out _ hB1)
    | fail
  all_goals
    have hCh := below_keep hbW hb1
    have HRX := Lib.hid (HR.out.later hCh HLT.out)
    have HLX := Lib.hid (Nat.lt_of_lt_of_le HLT.out hCh.size)
    go_wp2_with fail
    refine (C1.out _).mono ?_
    rintro e w5 ⟨rfl, hb5⟩
    obtain ⟨⟨r0, r1, r2, r3⟩, f0, f1, f2, f3⟩ := HRX.out.later hb5 HLX.out
    have HBE := Lib.hid (below_keep hB1 hb5)
    go_wp2
    refine bodyPost_ret (by simp [results, Tryz.results211, go_sem, r0, r1, r2, r3]; try rfl) rfl ?_
    exact ⟨rfl, below_set4 HBE.out⟩

set_option maxHeartbeats 1600000 in
theorem logA_true (y : Va) (v : Value) (c : Nat) (w : World) (hv : VaL w v [⟨1, 1, 0, []⟩, y]) (hc : w.cell? ⟨c, 0, none⟩ = some (.bool true)) :
    Calls Tryz.prog 211 #[v, .pointer (some ⟨c, 0, none⟩)] w (RetX w.heap.size (truthV true) w) := by
  obtain ⟨g, o, cap, rfl, h0, h3, h1, h2⟩ := hv.two
  have hg := h0.lt
  have hc1 := World.block_lt_of_cell? w ⟨c, 0, none⟩ hc
  simp only at hc1
  have K : ∀ w' : World, Below w.heap.size w w' → (w'.cell? ⟨c, 0, none⟩ = some (.bool true) ∧ w'.cell? ⟨g, o, none⟩ = some (.int .i64 1) ∧ w'.cell? ⟨g, o + 1, none⟩ = some (.int .i64 1) ∧ w'.cell? ⟨g, o + 2, none⟩ = some (.int .i64 0) ∧ w'.cell? ⟨g, o + 3, none⟩ = some (.string ⟨#[]⟩) ∧ w'.cell? ⟨g, o + 4, none⟩ = some (.int .i64 y.kind) ∧ w'.cell? ⟨g, o + 5, none⟩ = some (.int .i64 y.num) ∧ w'.cell? ⟨g, o + 6, none⟩ = some (.int .i64 y.den) ∧ w'.cell? ⟨g, o + 7, none⟩ = some (.string ⟨y.str.toArray⟩) ∧ Below w.heap.size w w') := fun w1 hb =>
    let b1 := h0.later hb hg; let b2 := h3.later hb hg
    ⟨(hb.cell (p := ⟨c, 0, none⟩) hc1).trans hc, b1.kind, b1.num, b1.den, b1.str, b2.kind, b2.num, b2.den, b2.str, hb⟩
  have HR := Lib.hid (ResV.made w 45)
  obtain ⟨W, hW⟩ : ∃ W, W = w.alloc (.cells #[.int .i64 0, .int .i64 0, .int .i64 0, .string ⟨#[]⟩] 45) := ⟨_, rfl⟩
  rw [← hW] at HR
  have hB : Below w.heap.size w W := by rw [hW]; exact below_alloc _ _
  have hlt : w.heap.size < W.heap.size := by rw [hW]; simp
  have HLT := Lib.hid hlt
  have hbd : Below w.heap.size w W.drew := hB.drew
  have hbW : Below W.heap.size W W.drew := (Below.refl _ _).drew
  obtain ⟨k8, k0, k1, k2, k3, k4, k5, k6, k7, -⟩ := K W hB
  have K := Lib.hid K
  have C1 := Lib.hid (fun w1 => (show Calls Tryz.prog 91 #[.bool true] w1 (fun e w' => e = .returned (.agg #[.int .i64 1, .int .i64 1, .int .i64 0, .string ⟨#[]⟩]) ∧ Below w1.heap.size w1 w') from truth_any true w1))
  have HG := Lib.hid hg
  have HC1 := Lib.hid hc1
  rename_i K'
  clear K' h0 h3 hc hv
  go_enter Tryz.func211, Tryz.ntmps211
  go_wp2_with fail
  rw [← hW]
  clear hW
  first
    | go_region_with (go_at_call 91; refine (C1.out _).mono ?_; rintro e w2 ⟨rfl, hb1⟩; have hB1 := below_keep hbd hb1; obtain ⟨k8, k0, k1, k2, k3, k4, k5, k6, k7, -⟩ := K.out _ hB1)
    | fail
  all_goals
    have hCh := below_keep hbW hb1
    have HRX := Lib.hid (HR.out.later hCh HLT.out)
    have HLX := Lib.hid (Nat.lt_of_lt_of_le HLT.out hCh.size)
    go_wp2_with fail
    refine (C1.out _).mono ?_
    rintro e w5 ⟨rfl, hb5⟩
    obtain ⟨⟨r0, r1, r2, r3⟩, f0, f1, f2, f3⟩ := HRX.out.later hb5 HLX.out
    have HBE := Lib.hid (below_keep hB1 hb5)
    go_wp2
    refine bodyPost_ret (by simp [results, Tryz.results211, go_sem, r0, r1, r2, r3]; try rfl) rfl ?_
    exact ⟨rfl, below_set4 HBE.out⟩
end Go.Proofs.YtemhidlaaommaaaGreatDoor
