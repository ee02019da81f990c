/- Lemmas and contracts, each under its own condition: The laws of layer 2: inside, equal, among, layout. SpaceChunks in plain words: cores, wide boxes, homes, dimension by dimension. -/
import Derived.BigQuiet
import Derived.Test.YtkliekoheeeamaaGreatDoorS13
import Derived.Test.YtkliekoheeeamaaGreatDoorS21
import Derived.Test.YtkliekoheeeamaaGreatDoorS6
import Derived.Test.YtkliekoheeeamaaGreatDoorSameA
/- The laws of layer 2: inside, equal, among, layout. -/
namespace Go.Proofs.YtkliekoheeeamaaGreatDoor
open Go.RowKit

theorem llayout_any (vs vo : Value) (l : LayT) (w : World) (h : LayR w vs vo l) :
  Calls Tryz.prog 10 #[layV vs vo l] w (fun e w' => ∃ b : Bool, e = .returned (.bool b) ∧ (b = true → l.sides.length ≤ 10 ∧ l.over.length ≤ 10) ∧ Below w.heap.size w w') := by
 obtain ⟨a1, c1, rfl, -⟩ := h.sides.shape
 obtain ⟨a2, c2, rfl, -⟩ := h.over.shape
 obtain ⟨ss, oo, o, t, f, c⟩ := l
 simp only
 obtain ⟨P, hP⟩ : ∃ P : Ending → World → Prop, P = fun e w' => ∃ b : Bool, e = .returned (.bool b) ∧ (b = true → ss.length ≤ 10 ∧ oo.length ≤ 10) ∧ Below w.heap.size w w' := ⟨_, rfl⟩
 rw [← hP]
 have HP := Lib.hid hP
 clear h hP
 by_cases h1 : ss.length ≤ 10
 ·have t1 : decide ((ss.length : Int) ≤ 10) = true := decide_eq_true (by omega)
  by_cases h2 : oo.length ≤ 10
  ·have t2 : decide ((oo.length : Int) ≤ 10) = true := decide_eq_true (by omega)
   have H12 := Lib.hid (And.intro h1 h2)
   clear h1 h2
   go_enter Tryz.func10, Tryz.ntmps10
   go_wp2
   rw [HP.out]
   exact ⟨true, rfl, fun _ => H12.out, below_alloc _ _⟩
  ·have t2 : decide ((oo.length : Int) ≤ 10) = false := decide_eq_false (by omega)
   clear h1 h2
   go_enter Tryz.func10, Tryz.ntmps10
   go_wp2
   rw [HP.out]
   exact ⟨false, rfl, (fun h => by cases h), below_alloc _ _⟩
 ·have t1 : decide ((ss.length : Int) ≤ 10) = false := decide_eq_false (by omega)
  clear h1
  go_enter Tryz.func10, Tryz.ntmps10
  go_wp2
  rw [HP.out]
  exact ⟨false, rfl, (fun h => by cases h), below_alloc _ _⟩
end Go.Proofs.YtkliekoheeeamaaGreatDoor
/- SpaceChunks in plain words: cores, wide boxes, homes, dimension by dimension. -/
namespace Go.Proofs.YtkliekoheeeamaaGreatDoor

/-- the coordinates of a box are those between its bounds -/
theorem ptsL_mem : ∀ {lo hi c : List Int}, lo.length = hi.length → (c ∈ ptsL lo hi ↔ c.length = lo.length ∧ ∀ (i : Nat) (a b x : Int), lo[i]? = some a → hi[i]? = some b → c[i]? = some x → a ≤ x ∧ x ≤ b)
 | [], [], c, _ => by simp [ptsL]
 | l :: ls, h :: hs, c, hl => by
  have ih := fun c => ptsL_mem (lo := ls) (hi := hs) (c := c) (by simpa using hl)
  rw [ptsL, List.mem_flatMap]
  constructor
  ·rintro ⟨k, hk, hc⟩
   rw [List.mem_range] at hk
   obtain ⟨y, hy, rfl⟩ := List.mem_map.1 hc
   have hy' := (ih y).1 hy
   refine ⟨by simp [hy'.1], fun i a b x ha hb hx => ?_⟩
   cases i with
   | zero => simp at ha hb hx; subst ha hb hx; omega
   | succ i => exact hy'.2 i a b x (by simpa using ha) (by simpa using hb) (by simpa using hx)
  ·rintro ⟨h1, h2⟩
   cases c with
   | nil => simp at h1
   | cons x xs =>
    have h0 := h2 0 l h x rfl rfl rfl
    refine ⟨(x - l).toNat, by rw [List.mem_range]; omega, List.mem_map.2 ⟨xs, (ih xs).2 ⟨by simpa using h1, fun i a b y ha hb hy => h2 (i + 1) a b y (by simpa using ha) (by simpa using hb) (by simpa using hy)⟩, ?_⟩⟩
    congr 1
    omega
 | [], _ :: _, c, h => by simp at h
 | _ :: _, [], c, h => by simp at h
end Go.Proofs.YtkliekoheeeamaaGreatDoor
