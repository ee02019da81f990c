/- Lemmas and contracts, each under its own condition: Contracts: equal, made. Slices of pairs as they are read from the arguments; made at any of them. -/
import Derived.OpenShut
import Derived.Deep.Slices
import Derived.Test.YtemhidlaaommaaaGreatDoorW1
/- Contracts: equal, made. -/
namespace Go.Proofs.YtemhidlaaommaaaGreatDoor
open Go.RowKit

theorem equal_yes {q : Rat} {x y : Value} {w : World} {k : Nat} (hx : IsR w x q) (hy : IsR w y q) (hb : Bd k q) (hk : k ≤ 1000000) :
    Calls Tryz.prog 41 #[x, y] w (RetV (.bool true) w) := by
  have T1 := Lib.hid (fun (w1 : World) (h : Below w.heap.size w w1) => ratText_any (hx.later h) (hb.smR (by omega)))
  have T2 := Lib.hid (fun (w1 : World) (h : Below w.heap.size w w1) => ratText_any (hy.later h) (hb.smR (by omega)))
  have C := Lib.hid (fun (w1 : World) (h : Below w.heap.size w w1) => (cmpR_any (hx.later h) (hy.later h) (hb.smR (by omega)) (hb.smR (by omega)) (hb.smM hb (by omega))))
  have hz : sgnQ (q - q) = 0 := (sgnQ_eq q q).2 rfl
  rw [hz] at C
  obtain ⟨g, vn, vd, rfl, -⟩ := hx
  obtain ⟨g', vn', vd', rfl, -⟩ := hy
  clear hb hk hz
  go_enter Tryz.func41, Tryz.ntmps41
  go_wp2_with fail
  refine (T1.out _ (Below.refl _ _)).mono ?_
  rintro e w1 ⟨rfl, hb1⟩
  go_wp2_with fail
  refine (T2.out _ hb1).mono ?_
  rintro e w2 ⟨rfl, hb2⟩
  have HB2 := Lib.hid (below_keep hb1 hb2)
  clear hb1 hb2
  go_wp2_with fail
  refine (C.out _ HB2.out).mono ?_
  rintro e w3 ⟨rfl, hb3⟩
  have HB3 := Lib.hid (below_keep HB2.out hb3)
  clear hb3
  go_wp2
  go_ret
  exact ⟨rfl, HB3.out⟩

/-- a slice of pairs of integers of 64 bits -/
structure PrL (w : World) (v : Value) (N D : Nat → Int) (n : Nat) : Prop where
  shape : ∃ g o cap, v = .slice (some ⟨g, o, none⟩) n cap ∧ n ≤ cap ∧ cap ≤ 9223372036854775807 ∧ ∀ i, i < n → w.cell? ⟨g, o + i * 2, none⟩ = some (.int .i64 (N i)) ∧ w.cell? ⟨g, o + i * 2 + 1, none⟩ = some (.int .i64 (D i))
  range : ∀ i, i < n → -9223372036854775808 ≤ N i ∧ N i ≤ 9223372036854775807 ∧ -9223372036854775808 ≤ D i ∧ D i ≤ 9223372036854775807
/-- a denominator, 1 in the place of 0 -/
def dz (d : Int) : Int := if d = 0 then 1 else d
theorem dz_ne (d : Int) : dz d ≠ 0 := by unfold dz; split <;> omega
def madeTo (N D : Nat → Int) : Nat → Rat
  | 0 => quoQ 1 1
  | i + 1 => if i % 2 = 0 then madeTo N D i * quoQ (N i) (dz (D i)) else madeTo N D i + quoQ (N i) (dz (D i))
theorem madeTo_bd {N D : Nat → Int} {n : Nat} (h : ∀ i, i < n → -9223372036854775808 ≤ N i ∧ N i ≤ 9223372036854775807 ∧ -9223372036854775808 ≤ D i ∧ D i ≤ 9223372036854775807) : ∀ i, i ≤ n → Bd (64 + 65 * i) (madeTo N D i)
  | 0, _ => Bd.i64 (by decide) (by decide) (by decide) (by decide) (by decide)
  | i + 1, hi => by
    have ih := madeTo_bd h i (by omega)
    obtain ⟨h1, h2, h3, h4⟩ := h i (by omega)
    have hq : Bd 64 (quoQ (N i) (dz (D i))) := Bd.i64 h1 h2 (by unfold dz; split <;> omega) (by unfold dz; split <;> omega) (dz_ne _)
    unfold madeTo
    split
    · exact (ih.mul hq).mono (by omega)
    · exact (ih.add hq).mono (by omega)

set_option maxHeartbeats 1600000 in
theorem made_core (g o cap n : Nat) (N D : Nat → Int) (w : World) (hn : n ≤ 100) (h1 : n ≤ cap) (h2 : cap ≤ 9223372036854775807)
    (hc : ∀ i, i < n → w.cell? ⟨g, o + i * 2, none⟩ = some (.int .i64 (N i)) ∧ w.cell? ⟨g, o + i * 2 + 1, none⟩ = some (.int .i64 (D i)))
    (hr : ∀ i, i < n → -9223372036854775808 ≤ N i ∧ N i ≤ 9223372036854775807 ∧ -9223372036854775808 ≤ D i ∧ D i ≤ 9223372036854775807) :
    Calls Tryz.prog 40 #[.slice (some ⟨g, o, none⟩) n cap] w (RetR (madeTo N D n) w) := by
  have HC := Lib.hid hc
  have HRG := Lib.hid hr
  have HBD := Lib.hid (madeTo_bd hr)
  clear hc hr
  go_enter Tryz.func40, Tryz.ntmps40
  go_wp2_with fail
  refine (of_any 1 1 w (by decide) (by decide) (by decide) (by decide) (by decide)).mono ?_
  rintro e w1 ⟨v1, rfl, hv1, hb1⟩
  have HV1 := Lib.hid hv1
  have HB1 := Lib.hid hb1
  obtain ⟨g1, vn1, vd1, hvs, -⟩ := hv1
  subst hvs
  clear hb1
  go_wp2
  go_loopw [3, 5, 6, 7, 8] (fun xv iv _ _ _ wr => ∃ i : Nat, i ≤ n ∧ iv = .int .i64 (i : Nat) ∧ Hid (IsR wr xv (madeTo N D i)) ∧ Hid (Below w.heap.size w wr)) (fun _ iv _ _ _ _ => n - (intOf iv).toNat)
  case atStart => exact ⟨0, Nat.zero_le _, rfl, HV1.out, HB1.out⟩
  case round =>
    obtain ⟨i, hi, rfl, hx, hbr⟩ := hrel
    by_cases hlt : i < n
    · have hcN := (hbr.out.cell (p := ⟨g, o + i * 2, none⟩) (World.block_lt_of_cell? w ⟨g, o + i * 2, none⟩ (HC.out i hlt).1)).trans (HC.out i hlt).1
      have hcD := (hbr.out.cell (p := ⟨g, o + i * 2 + 1, none⟩) (World.block_lt_of_cell? w ⟨g, o + i * 2 + 1, none⟩ (HC.out i hlt).2)).trans (HC.out i hlt).2
      obtain ⟨rN1, rN2, rD1, rD2⟩ := HRG.out i hlt
      have HOF := Lib.hid (fun w9 => of_any (N i) (dz (D i)) w9 rN1 rN2 (by unfold dz; split <;> omega) (by unfold dz; split <;> omega) (dz_ne _))
      have hq : Bd 64 (quoQ (N i) (dz (D i))) := Bd.i64 rN1 rN2 (by unfold dz; split <;> omega) (by unfold dz; split <;> omega) (dz_ne _)
      have hp := HBD.out i hi
      have HMUL := Lib.hid (fun (w9 : World) (x y : Value) (h1 : IsR w9 x (madeTo N D i)) (h2 : IsR w9 y (quoQ (N i) (dz (D i)))) => mulR_any h1 h2 (hp.smR (by omega)) (hq.smR (by omega)) (hp.smM hq (by omega)))
      have HADD := Lib.hid (fun (w9 : World) (x y : Value) (h1 : IsR w9 x (madeTo N D i)) (h2 : IsR w9 y (quoQ (N i) (dz (D i)))) => addR_any h1 h2 (hp.smR (by omega)) (hq.smR (by omega)) (hp.smM hq (by omega)))
      have HSTEP : Hid (madeTo N D (i + 1) = if i % 2 = 0 then madeTo N D i * quoQ (N i) (dz (D i)) else madeTo N D i + quoQ (N i) (dz (D i))) := rfl
      clear rN1 rN2 rD1 rD2 hq hp
      obtain ⟨gx, vnx, vdx, hxs, -⟩ := id hx.out
      subst hxs
      have hd : (((D i == 0) = true) ∧ dz (D i) = 1) ∨ (((D i == 0) = false) ∧ dz (D i) = D i) := by
        unfold dz
        by_cases h : D i = 0
        · left; simp [h]
        · right; simp [h]
      have he : (i % 2 = 0 ∧ (((i : Int) % 2 == 0) = true)) ∨ (i % 2 ≠ 0 ∧ (((i : Int) % 2 == 0) = false)) := by
        have e1 : (i : Int) % 2 = ((i % 2 : Nat) : Int) := rfl
        rw [e1]
        by_cases h : i % 2 = 0
        · left; simp [h]
        · right; refine ⟨h, ?_⟩; rw [beq_eq_false_iff_ne]; omega
      rcases hd with ⟨d0, hdz⟩ | ⟨d0, hdz⟩
      all_goals
        rw [hdz] at HOF HMUL HADD HSTEP
        rcases he with ⟨e1, e2⟩ | ⟨e1, e2⟩
      all_goals
        have HE1 := Lib.hid e1
        clear e1 hdz
        go_wp2_with fail
        refine (HOF.out _).mono ?_
        rintro e w2 ⟨v2, rfl, hv2, hb2⟩
        have HX2 := Lib.hid (hx.out.later hb2)
        have HV2 := Lib.hid hv2
        have HB2 := Lib.hid (below_keep hbr.out hb2)
        obtain ⟨g2, vn2, vd2, hvs2, -⟩ := hv2
        subst hvs2
        clear hb2
        go_wp2_with fail
        first
          | refine (HMUL.out _ _ _ HX2.out HV2.out).mono ?_
          | refine (HADD.out _ _ _ HX2.out HV2.out).mono ?_
        rintro e w3 ⟨v3, rfl, hv3, hb3⟩
        have HV3 := Lib.hid hv3
        have HB3 := Lib.hid (below_keep HB2.out hb3)
        obtain ⟨g3, vn3, vd3, hvs3, -⟩ := hv3
        subst hvs3
        clear hb3
        go_wp2
        refine ⟨⟨i + 1, by omega, rfl, ?_, HB3⟩, by show n - (i + 1) < n - i; omega⟩
        show IsR _ _ _
        rw [HSTEP.out]
        first
          | (rw [if_pos HE1.out]; exact HV3.out)
          | (rw [if_neg HE1.out]; exact HV3.out)
    · obtain rfl : i = n := by omega
      obtain ⟨gx, vnx, vdx, hxs, -⟩ := id hx.out
      subst hxs
      go_wp2
      first
        | exact ⟨_, rfl, hx.out, hbr.out⟩
        | (go_ret; exact ⟨_, rfl, hx.out, hbr.out⟩)
end Go.Proofs.YtemhidlaaommaaaGreatDoor
/- Slices of pairs as they are read from the arguments; made at any of them. -/
namespace Go.Proofs.YtemhidlaaommaaaGreatDoor
open Go.RowKit Go.Deep

/-- the pairs of a slice, in the world w -/
def PairsAt (w : World) (a : Option Addr) (n : Nat) (N D : Nat → Int) : Prop :=
  ∀ i, i < n → ∃ ad, a = some ad ∧ w.cell? (ad.add (i * 2)) = some (.int .i64 (N i)) ∧ w.cell? (ad.add (i * 2 + 1)) = some (.int .i64 (D i)) ∧ -9223372036854775808 ≤ N i ∧ N i ≤ 9223372036854775807 ∧ -9223372036854775808 ≤ D i ∧ D i ≤ 9223372036854775807
theorem PairsAt.later {w w' : World} {a : Option Addr} {n : Nat} {N D : Nat → Int} (h : PairsAt w a n N D) (hb : Below w.heap.size w w') : PairsAt w' a n N D := fun i hi =>
  let ⟨ad, e, h1, h2, h3⟩ := h i hi
  ⟨ad, e, (hb.cell (World.block_lt_of_cell? w _ h1)).trans h1, (hb.cell (World.block_lt_of_cell? w _ h2)).trans h2, h3⟩

theorem made_zero (a : Option Addr) (cap : Nat) (w : World) :
    Calls Tryz.prog 40 #[.slice a 0 cap] w (RetR (quoQ 1 1) w) := by
  go_enter Tryz.func40, Tryz.ntmps40
  go_wp2_with fail
  refine (of_any 1 1 w (by decide) (by decide) (by decide) (by decide) (by decide)).mono ?_
  rintro e w1 ⟨v1, rfl, hv1, hb1⟩
  have HV1 := Lib.hid hv1
  have HB1 := Lib.hid hb1
  obtain ⟨g1, vn1, vd1, hvs, -⟩ := hv1
  subst hvs
  clear hb1
  go_wp2
  refine wp_loop_rounds 1 ?_
  rw [rounds_succ]
  go_wp2
  go_ret
  exact ⟨_, rfl, HV1.out, HB1.out⟩
theorem made_any (a : Option Addr) (n cap : Nat) (N D : Nat → Int) (w : World) (hn : n ≤ 100) (h1 : n ≤ cap) (h2 : cap ≤ 9223372036854775807) (h : PairsAt w a n N D) :
    Calls Tryz.prog 40 #[.slice a n cap] w (RetR (madeTo N D n) w) := by
  rcases Nat.eq_zero_or_pos n with rfl | hp
  · exact made_zero a cap w
  · obtain ⟨ad, rfl, h3, -⟩ := h 0 hp
    have hs : ad.spot = none := by
      have h4 : w.cell? ad = some (.int .i64 (N 0)) := by simpa [Addr.add] using h3
      unfold World.cell? at h4
      cases hsp : ad.spot with
      | none => rfl
      | some x =>
        rw [hsp] at h4
        split at h4
        · simp at h4
        · cases h4
    obtain ⟨g, o, s⟩ := ad
    simp only at hs
    subst hs
    refine made_core g o cap n N D w hn h1 h2 (fun i hi => ?_) (fun i hi => ?_)
    · obtain ⟨ad', e, h5, h6, -⟩ := h i hi
      cases e
      rw [Addr.add_mid] at h5 h6
      exact ⟨h5, by rw [Nat.add_assoc]; exact h6⟩
    · obtain ⟨ad', e, -, -, h7⟩ := h i hi
      exact h7

section
variable {H : Type} {enc : TypeId × Value → H} {w : World} {base : Nat} {spare : Nat → Bool} {held : Bool}
set_option maxRecDepth 100000 in
theorem open_pairs {fuel : Nat} {cs : List Value} {x : DataW H × List MemPlace} (h : DataW.trod enc Tryz.prog w base spare held fuel 55 cs = some x) :
    ∃ (a : Option Addr) (n cap : Nat) (N D : Nat → Int), cs = [.slice a n cap] ∧ n ≤ cap ∧ cap ≤ maxLen ∧ PairsAt w a n N D := by
  rcases open_slice Tryz.underlying55 h with ⟨rfl, -⟩ | ⟨a, len, cap, m, n, D, Pl, rfl, -, hl, hm, hmm, -, hx⟩
  · exact ⟨none, 0, 0, fun _ => 0, fun _ => 0, rfl, Nat.le_refl _, Nat.zero_le _, fun i hi => absurd hi (Nat.not_lt_zero _)⟩
  · have hlm : len ≤ m := by rw [hmm]; split <;> omega
    have c74 : Tryz.prog.cellsOf 74 = 2 := by kernel_rfl
    have c2 : Tryz.prog.cellsOf 2 = 1 := by kernel_rfl
    have key : ∀ i, i < len → ∃ q : Int × Int, w.cell? (a.add (i * 2)) = some (.int .i64 q.1) ∧ w.cell? (a.add (i * 2 + 1)) = some (.int .i64 q.2) ∧ (Lit.int .i64 q.1).wf = true ∧ (Lit.int .i64 q.2).wf = true := by
      intro i hi
      obtain ⟨cs', h1, h2⟩ := hx i (by omega)
      rw [c74] at h1
      obtain ⟨_, hlen, hcell⟩ := World.cells?_some h1
      obtain ⟨xs, k, -, -, -, hxl, hf⟩ := DataW.trod_array Tryz.underlying74 h2
      match cs', hlen with
      | [v0, v1], _ =>
        have f0 := hf 0 (by decide)
        have f1 := hf 1 (by decide)
        rw [c2] at f0 f1
        simp only [Nat.zero_mul, List.drop_zero, List.take_succ_cons, List.take_zero, Nat.one_mul, List.drop_succ_cons] at f0 f1
        rw [List.getElem?_eq_getElem (by omega)] at f0 f1
        obtain ⟨p, e0, -, w0⟩ := DataW.trod_int Tryz.underlying2 f0
        obtain ⟨q, e1, -, w1⟩ := DataW.trod_int Tryz.underlying2 f1
        cases e0
        cases e1
        refine ⟨⟨p, q⟩, ?_, ?_, w0, w1⟩
        · have := hcell 0 (by decide)
          simpa [add_add] using this
        · have := hcell 1 (by decide)
          simpa [add_add] using this
    obtain ⟨q, hq⟩ := choose_lt (α := Int × Int) (p := fun i q => w.cell? (a.add (i * 2)) = some (.int .i64 q.1) ∧ w.cell? (a.add (i * 2 + 1)) = some (.int .i64 q.2) ∧ (Lit.int .i64 q.1).wf = true ∧ (Lit.int .i64 q.2).wf = true) key
    refine ⟨some a, len, cap, fun i => (q i).1, fun i => (q i).2, rfl, hl, hm, fun i hi => ?_⟩
    obtain ⟨k1, k2, k3, k4⟩ := hq i hi
    have b1 := bounds_i64 k3
    have b2 := bounds_i64 k4
    exact ⟨a, rfl, k1, k2, b1.1, b1.2, b2.1, b2.2⟩
end
end Go.Proofs.YtemhidlaaommaaaGreatDoor
