/- Lemmas and contracts, each under its own condition: Contract: right. Contracts: Check, truth, sign, Value. Contracts: number, Number. -/
import Derived.Test.YtebpfbgaafchjaaGreatDoorR2
import Derived.Test.YtebpfbgaafchjaaGreatDoorShlf
import Derived.Test.YtebpfbgaafchjaaGreatDoorV1
/- Contract: right. -/
namespace Go.Proofs.YtebpfbgaafchjaaGreatDoor
open Go.RowKit

/-- a value lies in a block of its own -/
structure BoxAt (w : World) (g : Nat) (x : Va) : Prop where
 kind : w.cell? ⟨g, 0, none⟩ = some (.int .i64 x.kind)
 num : w.cell? ⟨g, 1, none⟩ = some (.int .i64 x.num)
 den : w.cell? ⟨g, 2, none⟩ = some (.int .i64 x.den)
 str : w.cell? ⟨g, 3, none⟩ = some (.string ⟨x.str.toArray⟩)
theorem BoxAt.made (x : Va) (w : World) (t : TypeId) : BoxAt (w.alloc (.cells #[.int .i64 x.kind, .int .i64 x.num, .int .i64 x.den, .string ⟨x.str.toArray⟩] t)) w.heap.size x := by
 constructor <;> rw [World.cell?_alloc_at _ _ _ _ rfl] <;> rfl
theorem BoxAt.later {w w' : World} {B g : Nat} {x : Va} (h : BoxAt w g x) (hb : Below B w w') (hg : g < B) : BoxAt w' g x :=
 ⟨(hb.cell (p := ⟨g, 0, none⟩) hg).trans h.kind, (hb.cell (p := ⟨g, 1, none⟩) hg).trans h.num, (hb.cell (p := ⟨g, 2, none⟩) hg).trans h.den, (hb.cell (p := ⟨g, 3, none⟩) hg).trans h.str⟩
theorem BoxAt.past {w w1 : World} (x : Va) {t : TypeId} (hb : Below (w.alloc (.cells #[.int .i64 x.kind, .int .i64 x.num, .int .i64 x.den, .string ⟨x.str.toArray⟩] t)).heap.size (w.alloc (.cells #[.int .i64 x.kind, .int .i64 x.num, .int .i64 x.den, .string ⟨x.str.toArray⟩] t)) w1) :
  BoxAt w1 w.heap.size x ∧ Below w.heap.size w w1 :=
 ⟨(BoxAt.made x w t).later hb (by simp), (below_alloc w _).trans (hb.mono (by simp))⟩

theorem right_0 (n d : Int) (s : List UInt8) (w : World) :
  Calls Tryz.prog 153 #[(Va.mk 0 n d s).v] w fun e w' => e = .returned (.bool (decide (d = 0 ∧ s = [] ∧ 1 ≤ n ∧ n ≤ 255))) ∧ Below w.heap.size w w' := by
 have C := Lib.hid (fun w1 => plain_any ⟨0, n, d, s⟩ w1)
 by_cases hp : d = 0 ∧ s = []
 ·have H := Lib.hid hp
  have hp' : decide (d = 0 ∧ s = []) = true := by simpa using hp
  clear hp
  go_enter Tryz.func153, Tryz.ntmps153
  go_wp2_with fail
  refine (C.out _).mono ?_
  simp only [hp']
  rintro e w1 ⟨rfl, hb⟩
  obtain ⟨⟨h1, h2, h3, h4⟩, HB⟩ := BoxAt.past ⟨0, n, d, s⟩ hb
  clear C
  go_wp2
  all_goals
   go_ret
   refine ⟨ret_bool ?_, HB⟩
   have := H.out
   simp [this.1, this.2]
   try omega
 ·have hp' : decide (d = 0 ∧ s = []) = false := by simpa using hp
  have HF : Hid (decide (d = 0 ∧ s = [] ∧ 1 ≤ n ∧ n ≤ 255) = false) := by
   show _ = _
   rw [decide_eq_false_iff_not]; intro h; exact hp ⟨h.1, h.2.1⟩
  clear hp
  go_enter Tryz.func153, Tryz.ntmps153
  go_wp2_with fail
  refine (C.out _).mono ?_
  simp only [hp']
  rintro e w1 ⟨rfl, hb⟩
  obtain ⟨⟨h1, h2, h3, h4⟩, HB⟩ := BoxAt.past ⟨0, n, d, s⟩ hb
  clear C
  go_wp2
  go_ret
  exact ⟨ret_bool HF.out.symm, HB⟩

theorem right_1 (n d : Int) (s : List UInt8) (w : World) :
  Calls Tryz.prog 153 #[(Va.mk 1 n d s).v] w fun e w' => e = .returned (.bool (decide (d = 0 ∧ s = [] ∧ (n = 0 ∨ n = 1)))) ∧ Below w.heap.size w w' := by
 have C := Lib.hid (fun w1 => plain_any ⟨1, n, d, s⟩ w1)
 by_cases hp : d = 0 ∧ s = []
 ·have H := Lib.hid hp
  have hp' : decide (d = 0 ∧ s = []) = true := by simpa using hp
  clear hp
  go_enter Tryz.func153, Tryz.ntmps153
  go_wp2_with fail
  refine (C.out _).mono ?_
  simp only [hp']
  rintro e w1 ⟨rfl, hb⟩
  obtain ⟨⟨h1, h2, h3, h4⟩, HB⟩ := BoxAt.past ⟨1, n, d, s⟩ hb
  clear C
  go_wp2
  all_goals
   go_ret
   refine ⟨ret_bool ?_, HB⟩
   have := H.out
   simp only [this.1, this.2, true_and]
   first
    | (rename_i h0; simp [h0]; done)
    | (rw [Bool.eq_iff_iff]; simp; done)
 ·have hp' : decide (d = 0 ∧ s = []) = false := by simpa using hp
  have HF : Hid (decide (d = 0 ∧ s = [] ∧ (n = 0 ∨ n = 1)) = false) := by
   show _ = _
   rw [decide_eq_false_iff_not]; intro h; exact hp ⟨h.1, h.2.1⟩
  clear hp
  go_enter Tryz.func153, Tryz.ntmps153
  go_wp2_with fail
  refine (C.out _).mono ?_
  simp only [hp']
  rintro e w1 ⟨rfl, hb⟩
  obtain ⟨⟨h1, h2, h3, h4⟩, HB⟩ := BoxAt.past ⟨1, n, d, s⟩ hb
  clear C
  go_wp2
  go_ret
  exact ⟨ret_bool HF.out.symm, HB⟩

theorem right_other (x : Va) (w : World) (h0 : x.kind ≠ 0) (h1 : x.kind ≠ 1) (h2 : x.kind ≠ 2) (h3 : x.kind ≠ 3) :
  Calls Tryz.prog 153 #[x.v] w fun e w' => e = .returned (.bool false) ∧ Below w.heap.size w w' := by
 have e0 : (x.kind == 0) = false := by simpa using h0
 have e1 : (x.kind == 1) = false := by simpa using h1
 have e2 : (x.kind == 2) = false := by simpa using h2
 have e3 : (x.kind == 3) = false := by simpa using h3
 clear h0 h1 h2 h3
 go_enter Tryz.func153, Tryz.ntmps153
 go_wp2
 go_ret
 exact ⟨rfl, below_alloc _ _⟩

/-- the tests of a number -/
def numOk (n d : Int) : Prop := 1 ≤ d ∧ d ≤ 1099511627776 ∧ -1099511627776 ≤ n ∧ n ≤ 1099511627776

theorem right_2s (n d : Int) (s : List UInt8) (w : World) (hs : s ≠ []) :
  Calls Tryz.prog 153 #[(Va.mk 2 n d s).v] w fun e w' => e = .returned (.bool false) ∧ Below w.heap.size w w' := by
 go_enter Tryz.func153, Tryz.ntmps153
 go_wp2
 all_goals first
  | (exfalso; rename_i h; exact hs h)
  | skip
 go_ret
 exact ⟨rfl, below_alloc _ _⟩

theorem right_2n (n d : Int) (w : World) (h : ¬ numOk n d) :
  Calls Tryz.prog 153 #[(Va.mk 2 n d []).v] w fun e w' => e = .returned (.bool false) ∧ Below w.heap.size w w' := by
 have H := Lib.hid h
 clear h
 go_enter Tryz.func153, Tryz.ntmps153
 go_wp2_with fail
 all_goals first
  | (go_ret; exact ⟨rfl, below_alloc _ _⟩)
  | (exfalso; apply H.out; unfold numOk; omega)
  | skip
 trace_state

theorem right_2 (n : Int) (d : Nat) (w : World) (h : numOk n d) :
  Calls Tryz.prog 153 #[(Va.mk 2 n d []).v] w fun e w' => e = .returned (.bool (decide (Nat.gcd n.natAbs d = 1))) ∧ Below w.heap.size w w' := by
 obtain ⟨k1, k2, k3, k4⟩ := h
 have hm : max n (-n) = ((n.natAbs : Nat) : Int) := by omega
 have C := Lib.hid (fun w1 => igcd_any n.natAbs d (by unfold T40; omega) (by unfold T40; omega) w1)
 have HM := Lib.hid hm
 clear hm
 go_enter Tryz.func153, Tryz.ntmps153
 go_wp2_with fail
 rw [HM.out]
 refine (C.out _).mono ?_
 rintro e w1 ⟨rfl, k, rfl⟩
 go_wp2
 go_ret
 refine ⟨ret_bool ?_, (below_alloc w _).trans ((below_drewN' _ _).mono (by simp))⟩
 rw [Bool.eq_iff_iff]; simp; omega

theorem odd_grows (w : World) : PredGrows Tryz.prog 188 #[] oddR w := fun W x _ _ =>
 (right1_any (x : Int) W).mono fun e w' ⟨he, hw⟩ => ⟨by rw [he]; rfl, by subst hw; exact Below.refl _ _⟩

theorem right_3n (n d : Int) (s : List UInt8) (w : World) (h : n ≠ 0 ∨ d ≠ 0 ∨ 16 < s.length) :
  Calls Tryz.prog 153 #[(Va.mk 3 n d s).v] w fun e w' => e = .returned (.bool false) ∧ Below w.heap.size w w' := by
 have h' : ((n == 0) = false) ∨ ((n == 0) = true ∧ (d == 0) = false) ∨ ((n == 0) = true ∧ (d == 0) = true ∧ 16 < s.length) := by
  by_cases h1 : n = 0
  ·by_cases h2 : d = 0
   ·right; right; refine ⟨by simpa using h1, by simpa using h2, ?_⟩
    omega
   ·right; left; exact ⟨by simpa using h1, by simpa using h2⟩
  ·left; simpa using h1
 clear h
 rcases h' with h1 | ⟨h1, h2⟩ | ⟨h1, h2, h3⟩
 all_goals
  go_enter Tryz.func153, Tryz.ntmps153
  go_wp2
  all_goals
   go_ret
   exact ⟨rfl, below_alloc _ _⟩

set_option maxRecDepth 100000 in
theorem right_3 (s : List UInt8) (w : World) (h : s.length ≤ 16) :
  Calls Tryz.prog 153 #[(Va.mk 3 0 0 s).v] w fun e w' => e = .returned (.bool (s.all okB)) ∧ Below w.heap.size w w' := by
 have C := Lib.hid (fun w1 => Tryz.strings_IndexFunc_grows 188 #[] (fun _ _ => rfl) oddR ⟨s.toArray⟩ w1 (odd_grows w1))
 have HI := Lib.hid (idx_okB ⟨s.toArray⟩)
 obtain ⟨I, hI⟩ : ∃ I, Lib.idxFunc oddR true ⟨s.toArray⟩ = I := ⟨_, rfl⟩
 rw [hI] at C HI
 clear hI
 go_enter Tryz.func153, Tryz.ntmps153
 go_wp2_with fail
 refine (C.out _).mono ?_
 rintro e w1 ⟨rfl, hb⟩
 go_wp2
 go_ret
 refine ⟨ret_bool ?_, (below_alloc w _).trans (hb.mono (by simp))⟩
 rw [Bool.eq_iff_iff, decide_eq_true_eq]; exact HI.out

theorem right_any (x : Va) (w : World) :
  Calls Tryz.prog 153 #[x.v] w fun e w' => e = .returned (.bool (rightV x)) ∧ Below w.heap.size w w' := by
 obtain ⟨k, n, d, s⟩ := x
 by_cases h0 : k = 0
 ·subst h0; exact right_0 n d s w
 by_cases h1 : k = 1
 ·subst h1; exact right_1 n d s w
 by_cases h2 : k = 2
 ·subst h2
  by_cases hs : s = []
  ·subst hs
   by_cases hn : numOk n d
   ·obtain ⟨D, rfl⟩ : ∃ D : Nat, d = D := ⟨d.toNat, by have := hn.1; omega⟩
    refine (right_2 n D w hn).mono fun e w' ⟨he, hb⟩ => ⟨?_, hb⟩
    rw [he]
    refine ret_bool ?_
    unfold numOk at hn
    show _ = decide (_ ∧ _)
    rw [Bool.eq_iff_iff, decide_eq_true_eq, decide_eq_true_eq, Int.natAbs_natCast]
    exact ⟨fun h => ⟨rfl, hn.1, hn.2.1, hn.2.2.1, hn.2.2.2, h⟩, fun h => h.2.2.2.2.2⟩
   ·refine (right_2n n d w hn).mono fun e w' ⟨he, hb⟩ => ⟨?_, hb⟩
    rw [he]
    refine ret_bool ?_
    show _ = decide (_ ∧ _)
    symm
    rw [decide_eq_false_iff_not]
    exact fun h => hn ⟨h.2.1, h.2.2.1, h.2.2.2.1, h.2.2.2.2.1⟩
  ·refine (right_2s n d s w hs).mono fun e w' ⟨he, hb⟩ => ⟨?_, hb⟩
   rw [he]
   refine ret_bool ?_
   show _ = decide (_ ∧ _)
   symm
   rw [decide_eq_false_iff_not]
   exact fun h => hs h.1
 by_cases h3 : k = 3
 ·subst h3
  by_cases hn : n ≠ 0 ∨ d ≠ 0 ∨ 16 < s.length
  ·refine (right_3n n d s w hn).mono fun e w' ⟨he, hb⟩ => ⟨?_, hb⟩
   rw [he]
   refine ret_bool ?_
   show _ = decide (_ ∧ _)
   symm
   rw [decide_eq_false_iff_not]
   intro h
   rcases hn with h1 | h1 | h1
   ·exact h1 h.1
   ·exact h1 h.2.1
   ·exact absurd h.2.2.1 (Nat.not_le.2 h1)
  ·obtain ⟨rfl, rfl, hl⟩ : n = 0 ∧ d = 0 ∧ s.length ≤ 16 := by
    refine ⟨?_, ?_, ?_⟩
    ·exact Classical.byContradiction fun h => hn (.inl h)
    ·exact Classical.byContradiction fun h => hn (.inr (.inl h))
    ·exact Nat.le_of_not_lt fun h => hn (.inr (.inr h))
   refine (right_3 s w hl).mono fun e w' ⟨he, hb⟩ => ⟨?_, hb⟩
   rw [he]
   refine ret_bool ?_
   show _ = decide (_ ∧ _)
   rw [Bool.eq_iff_iff, decide_eq_true_eq]
   exact ⟨fun h => ⟨rfl, rfl, hl, h⟩, fun h => h.2.2.2⟩
 ·refine (right_other ⟨k, n, d, s⟩ w h0 h1 h2 h3).mono fun e w' ⟨he, hb⟩ => ⟨?_, hb⟩
  rw [he]
  refine ret_bool ?_
  simp [rightV, h0, h1, h2, h3]
end Go.Proofs.YtebpfbgaafchjaaGreatDoor
/- Contracts: Check, truth, sign, Value. -/
namespace Go.Proofs.YtebpfbgaafchjaaGreatDoor
open Go.RowKit

/-- the result's cell: a value's four cells, open to be written -/
structure ResV (w : World) (g : Nat) : Prop where
 box : BoxAt w g zeroV
 f0 : w.frozen? ⟨g, 0, none⟩ = false
 f1 : w.frozen? ⟨g, 1, none⟩ = false
 f2 : w.frozen? ⟨g, 2, none⟩ = false
 f3 : w.frozen? ⟨g, 3, none⟩ = false
theorem ResV.made (w : World) (t : TypeId) : ResV (w.alloc (.cells #[.int .i64 0, .int .i64 0, .int .i64 0, .string ⟨#[]⟩] t)) w.heap.size :=
 ⟨BoxAt.made zeroV w t, World.frozen?_alloc_at _ _ _ _ rfl, World.frozen?_alloc_at _ _ _ _ rfl, World.frozen?_alloc_at _ _ _ _ rfl, World.frozen?_alloc_at _ _ _ _ rfl⟩
theorem ResV.later {w w' : World} {B g : Nat} (h : ResV w g) (hb : Below B w w') (hg : g < B) : ResV w' g :=
 ⟨h.box.later hb hg, (hb.frozen (p := ⟨g, 0, none⟩) hg).trans h.f0, (hb.frozen (p := ⟨g, 1, none⟩) hg).trans h.f1, (hb.frozen (p := ⟨g, 2, none⟩) hg).trans h.f2, (hb.frozen (p := ⟨g, 3, none⟩) hg).trans h.f3⟩
end Go.Proofs.YtebpfbgaafchjaaGreatDoor
/- Contracts: number, Number. -/
namespace Go.Proofs.YtebpfbgaafchjaaGreatDoor
open Go.RowKit


theorem number_core (q : Rat) (N D : Int) (w : World) (hE : decide (N < 0) = qneg q)
  (C1 : ∀ w1, Calls Tryz.prog 154 #[.int .i64 N] w1 (RetN B32 (qnum q) w1)) (C2 : ∀ w1, Calls Tryz.prog 154 #[.int .i64 D] w1 (RetN B32 q.den w1)) :
  Calls Tryz.prog 156 #[.agg #[.int .i64 2, .int .i64 N, .int .i64 D, .string ⟨#[]⟩]] w (RetR q w) := by
 obtain ⟨W, hW⟩ : ∃ W, W = w.alloc (.cells #[.int .i64 2, .int .i64 N, .int .i64 D, .string ⟨#[]⟩] 50) := ⟨_, rfl⟩
 have hB : Below w.heap.size w W := by rw [hW]; exact below_alloc _ _
 have hlt : w.heap.size < W.heap.size := by rw [hW]; simp
 have hBox : BoxAt W w.heap.size ⟨2, N, D, []⟩ := by rw [hW]; exact BoxAt.made ⟨2, N, D, []⟩ w _
 have K := Lib.hid (fun (w1 : World) (hb : Below W.heap.size W w1) => (show w1.cell? ⟨w.heap.size, 1, none⟩ = some (.int .i64 N) ∧ w1.cell? ⟨w.heap.size, 2, none⟩ = some (.int .i64 D) ∧ Below W.heap.size W w1 from ⟨(hBox.later hb hlt).num, (hBox.later hb hlt).den, hb⟩))
 have HB := Lib.hid hB
 have k0 := (K.out W (Below.refl _ _)).1
 have k1 := (K.out W (Below.refl _ _)).2.1
 have hE := Lib.hid hE
 have C1 := Lib.hid C1
 have C2 := Lib.hid C2
 clear hBox hB
 rename_i hE' C1' C2'
 clear hE' C1' C2'
 have hbd : Below W.heap.size W W.drew := (Below.refl _ _).drew
 go_enter Tryz.func156, Tryz.ntmps156
 go_wp2_with fail
 rw [← hW]
 clear hW
 go_region_held3 (fun w' => w'.cell? ⟨w.heap.size, 1, none⟩ = some (.int .i64 N) ∧ w'.cell? ⟨w.heap.size, 2, none⟩ = some (.int .i64 D) ∧ Below W.heap.size W w')
  (first | exact K.out _ (by assumption) | exact K.out _ (Below.drew (Below.refl _ _)) | exact K.out _ (hB2.alloc hB2.size _))
  (first
   | (go_at_call_of 154 (Value.int .i64 N); refine (C1.out _).mono ?_; rintro e w2 ⟨v1, rfl, hv1, hb1⟩; have hB1 := below_keep hbd hb1; obtain ⟨a1, n1, p1, hs1, -⟩ := hv1.shape (by decide); subst hs1)
   | (go_at_call_of 154 (Value.int .i64 D); refine (C2.out _).mono ?_; rintro e w3 ⟨v2, rfl, hv2, hb2⟩; have hB2 := below_keep hB1 hb2; obtain ⟨a2, n2, p2, hs2, -⟩ := hv2.shape (by decide); subst hs2))
 go_wp2
 go_ret
 refine ⟨_, rfl, IsR.made hE.out ((hv1.later hb2)) hv2, HB.out.trans ((hB2.alloc hB2.size _).mono HB.out.size)⟩

theorem number_any (q : Rat) (hf : FitQ q) (w : World) :
  Calls Tryz.prog 156 #[(ratV q).v] w (RetR q w) := by
 have hlim : -9223372036854775808 ≤ q.num ∧ q.num ≤ 9223372036854775807 ∧ (q.den : Int) ≤ 9223372036854775807 := by
  have := hf.num; have := hf.den; unfold qnum T40 at *; omega
 exact number_core q q.num q.den w rfl (fun w1 => size_any q.num w1 hlim.1 hlim.2.1) (fun w1 => size_any (q.den : Int) w1 (by omega) hlim.2.2)

end Go.Proofs.YtebpfbgaafchjaaGreatDoor
