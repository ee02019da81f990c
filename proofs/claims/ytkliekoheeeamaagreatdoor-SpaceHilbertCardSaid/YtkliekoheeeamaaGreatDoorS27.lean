/- Lemmas and contracts, each under its own condition: The laws of layer 2: inside, equal, among, layout. SpaceChunks in plain words: cores, wide boxes, homes, dimension by dimension. -/
import Derived.BigQuiet
import Derived.Test.YtkliekoheeeamaaGreatDoorS13
import Derived.Test.YtkliekoheeeamaaGreatDoorS21
import Derived.Test.YtkliekoheeeamaaGreatDoorS6
import Derived.Test.YtkliekoheeeamaaGreatDoorSameA
/- The laws of layer 2: inside, equal, among, layout. -/
namespace Go.Proofs.YtkliekoheeeamaaGreatDoor
open Go.RowKit

set_option maxHeartbeats 1600000 in
theorem lequal_any (a b : List Int) (v u : Value) (w : World) (ha : Ints w v a) (hb : Ints w u b) :
  Calls Tryz.prog 9 #[v, u] w (RetDr (.bool (decide (a = b))) w) := by
 have HA := Lib.hid ha
 have HB := Lib.hid hb
 have hla := ha.len
 obtain ⟨p, cap, rfl, c1, c2⟩ := ha.shape
 obtain ⟨p', cap', rfl, c1', c2'⟩ := hb.shape
 by_cases hl : a.length = b.length
 ·obtain ⟨R, hR⟩ : ∃ R, R = decide (a = b) := ⟨_, rfl⟩
  rw [← hR]
  have HR := Lib.hid hR
  have HL := Lib.hid hl
  rw [← hl] at HB ⊢
  clear ha hb hl hR c1'
  go_enter Tryz.func9, Tryz.ntmps9
  go_wp2
  go_loopw [5] (fun iv wr => ∃ (i nq : Nat), i ≤ a.length ∧ iv = .int .i64 (i : Nat) ∧ Hid (a.take i = b.take i) ∧ wr = w.drewN nq) (fun iv _ => a.length - (intOf iv).toNat)
  case atStart => exact ⟨0, 0, Nat.zero_le _, rfl, rfl, rfl⟩
  case round =>
   obtain ⟨i, n0, hi, rfl, HT, rfl⟩ := hrel
   by_cases hlt : i < a.length
   ·obtain ⟨g, o, x, ea, hx, hr⟩ := HA.out.at i hlt
    obtain ⟨g', o', y, ea', hy, hr'⟩ := HB.out.at i (by rw [← HL.out]; exact hlt)
    subst ea ea'
    rw [Nat.mul_one] at hr hr'
    unfold IntR at hr hr'
    have i0 : (0 : Int) ≤ (i : Int) := by omega
    have i1 : (i : Int) < (a.length : Int) := by omega
    have HX := Lib.hid hx
    have HY := Lib.hid hy
    clear hx hy
    by_cases hxy : x = y
    ·have hb1 : (x != y) = false := by simp [hxy]
     have HT2 : Hid (a.take (i + 1) = b.take (i + 1)) := by show _ = _; rw [take_snoc' HX.out, take_snoc' HY.out, HT.out, hxy]
     clear hxy
     go_wp2
     go_quiet (fail)
     go_wp2
     exact ⟨⟨i + 1, _, by omega, by go_num, HT2.out, rfl⟩, by show a.length - _ < a.length - _; simp [intOf]; omega⟩
    ·have hb1 : (x != y) = true := by rw [bne_iff_ne]; exact hxy
     have HRR : Hid (R = false) := by
      show _ = _
      rw [HR.out]
      apply decide_eq_false
      intro e
      subst e
      have := HX.out.symm.trans HY.out
      exact hxy (Option.some.inj this)
     clear hxy
     go_wp2
     go_quiet (fail)
     go_wp2
     go_ret
     rw [HRR.out]
     refine ⟨rfl, n0 + nq, ?_⟩
     first | rfl | rw [World.drewN_drewN]
   ·obtain rfl : i = a.length := by omega
    have HRR : Hid (R = true) := by
     show _ = _
     rw [HR.out]
     apply decide_eq_true
     have := HT.out
     rwa [List.take_length, HL.out, List.take_length] at this
    go_wp2
    go_ret
    rw [HRR.out]
    exact ⟨rfl, _, rfl⟩
 ·have hl' : ¬ ((a.length : Int) = b.length) := by omega
  have e : decide (a = b) = false := decide_eq_false (fun e => hl (by rw [e]))
  rw [e]
  clear ha hb hl e
  go_enter Tryz.func9, Tryz.ntmps9
  go_wp2
  go_ret
  exact ⟨rfl, 0, rfl⟩


end Go.Proofs.YtkliekoheeeamaaGreatDoor
/- SpaceChunks in plain words: cores, wide boxes, homes, dimension by dimension. -/
namespace Go.Proofs.YtkliekoheeeamaaGreatDoor

/-- the coordinates of a box are those between its bounds -/
theorem ptsL_mem : ∀ {lo hi c : List Int}, lo.length = hi.length → (c ∈ ptsL lo hi ↔ c.length = lo.length ∧ ∀ (i : Nat) (a b x : Int), lo[i]? = some a → hi[i]? = some b → c[i]? = some x → a ≤ x ∧ x ≤ b)
 | [], [], c, _ => by simp [ptsL]
 | l :: ls, h :: hs, c, hl => by
  have ih := fun c => ptsL_mem (lo := ls) (hi := hs) (c := c) (by simpa using hl)
  rw [ptsL, List.mem_flatMap]
  constructor
  ·rintro ⟨k, hk, hc⟩
   rw [List.mem_range] at hk
   obtain ⟨y, hy, rfl⟩ := List.mem_map.1 hc
   have hy' := (ih y).1 hy
   refine ⟨by simp [hy'.1], fun i a b x ha hb hx => ?_⟩
   cases i with
   | zero => simp at ha hb hx; subst ha hb hx; omega
   | succ i => exact hy'.2 i a b x (by simpa using ha) (by simpa using hb) (by simpa using hx)
  ·rintro ⟨h1, h2⟩
   cases c with
   | nil => simp at h1
   | cons x xs =>
    have h0 := h2 0 l h x rfl rfl rfl
    refine ⟨(x - l).toNat, by rw [List.mem_range]; omega, List.mem_map.2 ⟨xs, (ih xs).2 ⟨by simpa using h1, fun i a b y ha hb hy => h2 (i + 1) a b y (by simpa using ha) (by simpa using hb) (by simpa using hy)⟩, ?_⟩⟩
    congr 1
    omega
 | [], _ :: _, c, h => by simp at h
 | _ :: _, [], c, h => by simp at h
end Go.Proofs.YtkliekoheeeamaaGreatDoor
