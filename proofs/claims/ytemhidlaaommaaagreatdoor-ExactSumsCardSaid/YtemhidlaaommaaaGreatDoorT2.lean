/- Lemmas and contracts, each under its own condition: Contract: Parse. Contracts: short. Values in the program; contracts: plain, missing, gcd, truth. Contracts: gcd of int64, right. -/
import Derived.Handy
import Derived.Test.YtemhidlaaommaaaGreatDoorT1
/- Contract: Parse. -/
namespace Go.Proofs.YtemhidlaaommaaaGreatDoor
open Go.RowKit

/-- the package-level variable MaxLen lies where it lies -/
def Ml (w : World) : Prop := ∃ m, w.cell? ⟨0, 0, none⟩ = some (.int .i64 m)
theorem Ml.later {w w' : World} (h : Ml w) (hb : Below w.heap.size w w') : Ml w' :=
  let ⟨m, h1⟩ := h; ⟨m, (hb.cell (p := ⟨0, 0, none⟩) (World.block_lt_of_cell? w _ h1)).trans h1⟩

theorem parseD_sm {l : List UInt8} {X : Nat} (h : parseD l = some X) (hl : l.length ≤ 100000) : Sm X := by
  unfold parseD at h
  split at h
  · rename_i hc
    rw [← Option.some.inj h]
    exact dval_sm hc.2.2 hl
  · exact absurd h (by simp)
theorem prC_len (l : List UInt8) : (prC l).1.length ≤ l.length ∧ (prC l).2.1.length ≤ l.length := by
  have h1 : (Lib.trimPrefix l [45]).length ≤ l.length := by
    unfold Lib.trimPrefix; split <;> simp
  have h2 : ∀ a : List UInt8, (Lib.cut a [47]).1.length ≤ a.length ∧ (Lib.cut a [47]).2.1.length ≤ a.length := by
    intro a; unfold Lib.cut; split
    · simp only [List.length_take, List.length_drop]; omega
    · simp
  have := h2 (Lib.trimPrefix l [45])
  exact ⟨Nat.le_trans this.1 h1, Nat.le_trans this.2 h1⟩

/-- what Parse gives for a string that is not too long -/
def RetP (o : Option Rat) (w : World) (e : Ending) (w' : World) : Prop :=
  match o with
  | some q => ∃ v, e = .returned (.tuple #[v, .int .i64 0]) ∧ IsR w' v q ∧ Below w.heap.size w w'
  | none => e = .returned (.tuple #[.pointer none, .int .i64 7]) ∧ Below w.heap.size w w'

theorem parse_long (s : ByteArray) (w : World) (h : 10000 < s.size) :
    Calls Tryz.prog 22 #[.string s] w fun e w' => e = .returned (.tuple #[.pointer none, .int .i64 8]) ∧ w = w' := by
  have hd : decide ((10000 : Int) < (s.size : Int)) = true := by rw [decide_eq_true_eq]; omega
  clear h
  go_enter Tryz.func22, Tryz.ntmps22
  go_wp2
  go_ret2
  exact ⟨rfl, rfl⟩

def parseO (f n : Bool) : Option Nat → Option Nat → Option Rat
  | some X, some Y => if Y = 0 ∨ (f = true ∧ Y = 1) ∨ (n = true ∧ X = 0) ∨ Nat.gcd X Y ≠ 1 then none else some (mkRat (sgn n X) Y)
  | _, _ => none
theorem parseQ_O (l : List UInt8) : parseQ l = parseO (prC l).2.2 (prN l) (parseD (prC l).1) (parseD (prD l)) := by
  unfold parseQ parseO; rfl
theorem parseO_none (f n : Bool) (o : Option Nat) : parseO f n none o = none := by cases o <;> rfl
theorem parseO_none' (f n : Bool) (o : Option Nat) : parseO f n o none = none := by cases o <;> rfl

set_option maxHeartbeats 1600000 in
set_option maxRecDepth 100000 in
theorem parse_core (s : ByteArray) (w : World) (hs : s.size ≤ 10000) (hm : Ml w) :
    Calls Tryz.prog 22 #[.string s] w (RetP (parseQ s.data.toList) w) := by
  have hd : decide ((10000 : Int) < (s.size : Int)) = false := by rw [decide_eq_false_iff_not]; omega
  obtain ⟨l, hl⟩ : ∃ l, l = s.data.toList := ⟨_, rfl⟩
  have hll : l.length ≤ 10000 := by rw [hl, lenB]; exact hs
  have hlen := prC_len l
  obtain ⟨R, hR⟩ : ∃ R : Ending → World → Prop, R = RetP (parseQ l) w := ⟨_, rfl⟩
  rw [← hl, ← hR]
  have HR := Lib.hid hR
  have C1 := Lib.hid (Tryz.strings_CutPrefix s ⟨#[45]⟩ w)
  obtain ⟨m, hm⟩ := hm
  obtain ⟨t, ht⟩ : ∃ t : ByteArray, t = ⟨(Lib.trimPrefix l [45]).toArray⟩ := ⟨_, rfl⟩
  have htl : t.data.toList = Lib.trimPrefix l [45] := by rw [ht]
  have C2 := Lib.hid (Tryz.strings_Cut t ⟨#[47]⟩ m w (by
    have h1 : (Lib.trimPrefix l [45]).length ≤ l.length := by unfold Lib.trimPrefix; split <;> simp
    rw [Lib.size_eq, htl]; omega) hm)
  rw [show (⟨#[45]⟩ : ByteArray).data.toList = [45] from rfl, ← hl, ← ht] at C1
  rw [show (⟨#[47]⟩ : ByteArray).data.toList = [47] from rfl, htl] at C2
  have hn : Lib.hasPrefix l [45] = prN l := rfl
  have hc : Lib.cut (Lib.trimPrefix l [45]) [47] = prC l := rfl
  rw [hn] at C1
  rw [hc] at C2
  obtain ⟨n, hn'⟩ : ∃ n, n = prN l := ⟨_, rfl⟩
  rw [← hn'] at C1
  obtain ⟨a, ha⟩ : ∃ a : ByteArray, a = ⟨(prC l).1.toArray⟩ := ⟨_, rfl⟩
  obtain ⟨b, hb⟩ : ∃ b : ByteArray, b = ⟨(prC l).2.1.toArray⟩ := ⟨_, rfl⟩
  obtain ⟨f, hf⟩ : ∃ f, f = (prC l).2.2 := ⟨_, rfl⟩
  rw [← ha, ← hb, ← hf] at C2
  have Ha := Lib.hid ha
  have Hb := Lib.hid hb
  have Hf := Lib.hid hf
  have Hn := Lib.hid hn'
  have Hlen := Lib.hid hlen
  have Hll := Lib.hid hll
  clear hR hm ht htl hn hc hn' ha hb hf hlen hll hl hs
  go_enter Tryz.func22, Tryz.ntmps22
  go_wp2_with fail
  refine C1.out.mono ?_
  rintro e w' ⟨rfl, rfl⟩
  go_wp2_with fail
  refine C2.out.mono ?_
  rintro e w1 ⟨rfl, nd, rfl⟩
  clear C1 C2
  obtain ⟨d, hd1⟩ : ∃ d : ByteArray, d = if f = true then b else ⟨#[49]⟩ := ⟨_, rfl⟩
  obtain ⟨o1, ho1⟩ : ∃ o, o = parseD a.data.toList := ⟨_, rfl⟩
  obtain ⟨o2, ho2⟩ : ∃ o, o = parseD d.data.toList := ⟨_, rfl⟩
  have HA : Hid (a.data.toList = (prC l).1) := by show _ = _; rw [Ha.out]
  have HDD : Hid (d.data.toList = prD l) := by
    show d.data.toList = prD l
    rw [prD, hd1, Hf.out, Hb.out]; split <;> simp
  have HO1 : Hid (o1 = parseD (prC l).1) := by show _ = _; rw [ho1, HA.out]
  have HO2 : Hid (o2 = parseD (prD l)) := by show _ = _; rw [ho2, HDD.out]
  have N1 := Lib.hid (fun w' => natText_any w' a (by rw [← lenB, HA.out]; have := Hlen.out.1; have := Hll.out; omega))
  have N2 := Lib.hid (fun w' => natText_any w' d (by
    rw [← lenB, HDD.out, prD]
    have := Hlen.out.2; have := Hll.out
    split
    · omega
    · simp))
  rw [← ho1] at N1
  rw [← ho2] at N2
  have HS1 : Hid (∀ X, o1 = some X → Sm X) := fun X hX => parseD_sm (by rw [← HO1.out]; exact hX) (by have := Hlen.out.1; have := Hll.out; omega)
  have HS2 : Hid (∀ X, o2 = some X → Sm X) := fun X hX => parseD_sm (by rw [← HO2.out]; exact hX) (by
    have := Hlen.out.2; have := Hll.out
    unfold prD
    split
    · omega
    · simp)
  have HP : Hid (parseQ l = parseO f n o1 o2) := by
    show _ = _
    rw [parseQ_O, HO1.out, HO2.out, Hf.out, Hn.out]
  have hB1 : Below w'.heap.size w' (w'.drewN nd) := below_drewN' _ _
  clear Ha Hb Hf Hn Hlen Hll HA HDD HO1 HO2 ho1 ho2
  obtain ⟨w1, hw1⟩ : ∃ w1, w1 = w'.drewN nd := ⟨_, rfl⟩
  rw [← hw1] at hB1
  have HB1 := Lib.hid hB1
  clear hB1
  rw [← hw1]
  clear hw1
  rcases f with _ | _
  · rw [if_neg (by decide)] at hd1
    subst hd1
    go_wp2_with fail
    refine (N1.out w1).mono ?_
    intro e w2 hr1
    rcases o1 with _ | X
    · obtain ⟨rfl, hb2⟩ := hr1
      have HB2 := Lib.hid (HB1.out.trans (hb2.mono HB1.out.size))
      have hP : Hid (parseQ l = none) := by show _ = _; rw [HP.out, parseO_none]
      clear HP hb2 HB1 N1 HS1 HS2
      go_wp2_with fail
      refine (N2.out w2).mono ?_
      intro e w3 hr2
      obtain ⟨v, k, rfl, hb3⟩ : ∃ v k, e = .returned (.tuple #[v, .bool k]) ∧ Below w2.heap.size w2 w3 := by
        rcases o2 with _ | Y
        · exact ⟨_, _, hr2.1, hr2.2⟩
        · obtain ⟨v, h1, _, h3⟩ := hr2
          exact ⟨_, _, h1, h3⟩
      have HB3 := Lib.hid (HB2.out.trans (hb3.mono HB2.out.size))
      clear hr2 hb3 HB2 N2
      go_wp2
      rw [HR.out, hP.out]
      exact ⟨rfl, HB3.out⟩
    · obtain ⟨v1, rfl, hv1, hb2⟩ := hr1
      have HB2 := Lib.hid (HB1.out.trans (hb2.mono HB1.out.size))
      have HV1 := Lib.hid hv1
      have SX := Lib.hid (HS1.out X rfl)
      obtain ⟨a1, n1, cap1, rfl, hz1⟩ := hv1.shape (by decide)
      have HZ1 := Lib.hid hz1
      clear hb2 HB1 N1 HS1 hv1 hz1
      go_wp2_with fail
      refine (N2.out w2).mono ?_
      intro e w3 hr2
      rcases o2 with _ | Y
      · obtain ⟨rfl, hb3⟩ := hr2
        have HB3 := Lib.hid (HB2.out.trans (hb3.mono HB2.out.size))
        have hP : Hid (parseQ l = none) := by show _ = _; rw [HP.out, parseO_none']
        clear HP hb3 HB2 N2 HS2
        go_wp2
        rw [HR.out, hP.out]
        exact ⟨rfl, HB3.out⟩
      · obtain ⟨v2, rfl, hv2, hb3⟩ := hr2
        have HB3 := Lib.hid (HB2.out.trans (hb3.mono HB2.out.size))
        have HV2 := Lib.hid hv2
        have HV1' := Lib.hid (HV1.out.later hb3)
        have SY := Lib.hid (HS2.out Y rfl)
        obtain ⟨a2, n2, cap2, rfl, hz2⟩ := hv2.shape (by decide)
        clear hv2 hb3 HB2 N2 HS2 HV1
        by_cases hY0 : Y = 0
        · obtain rfl : n2 = 0 := hz2.2 hY0
          have hP : Hid (parseQ l = none) := by show _ = _; rw [HP.out, parseO, if_pos (.inl hY0)]
          clear HP hz2 hY0
          go_wp2
          rw [HR.out, hP.out]
          exact ⟨rfl, HB3.out⟩
        · have hn2 : ((n2 : Int) == 0) = false := by
            rw [beq_eq_false_iff_ne]
            intro e
            exact hY0 (hz2.1 (by omega))
          have HY0 := Lib.hid hY0
          clear hz2 hY0
          have HO := Lib.hid (one_any HV2.out)
          have HG := Lib.hid (gcd_any HV1'.out HV2.out SX.out SY.out)
          rcases n with _ | _
          · go_wp2_with fail
            refine HG.out.mono ?_
            rintro e w4 ⟨gv, rfl, hgv, hb4⟩
            have HB4 := Lib.hid (HB3.out.trans (hb4.mono HB3.out.size))
            have HBB := Lib.hid hb4
            clear hb4
            go_wp2_with fail
            refine (one_any hgv).mono ?_
            rintro e w5 ⟨rfl, rfl⟩
            clear hgv
            by_cases hg : Nat.gcd X Y = 1
            · have hg' : decide (Nat.gcd X Y = 1) = true := by rw [decide_eq_true_eq]; exact hg
              have hP : Hid (parseQ l = some (mkRat (sgn false X) Y)) := by
                show _ = _
                rw [HP.out, parseO, if_neg]
                rintro (h | h | h | h)
                · exact HY0.out h
                · first | exact HY1.out h.2 | exact absurd h.1 (by decide)
                · first | exact HX0.out h.2 | exact absurd h.1 (by decide)
                · exact h hg
              have HGG := Lib.hid hg
              clear hg HP
              go_wp2
              rw [HR.out, hP.out]
              refine ⟨_, rfl, IsR.made ?_ ?_ ?_, HB4.out.alloc HB4.out.size _⟩
              · rw [qneg, mk_neg _ _ _ HY0.out]
                first | rfl | (have := HX0.out; simp [this])
              · rw [qnum, mk_num _ _ _ HY0.out, HGG.out, Nat.div_one]; exact HV1'.out.later HBB.out
              · rw [mk_den _ _ _ HY0.out, HGG.out, Nat.div_one]; exact HV2.out.later HBB.out
            · have hg' : decide (Nat.gcd X Y = 1) = false := by rw [decide_eq_false_iff_not]; exact hg
              have hP : Hid (parseQ l = none) := by show _ = _; rw [HP.out, parseO, if_pos (.inr (.inr (.inr hg)))]
              clear hg HP
              go_wp2
              rw [HR.out, hP.out]
              exact ⟨rfl, HB4.out⟩
          · by_cases hX0 : X = 0
            · obtain rfl : n1 = 0 := HZ1.out.2 hX0
              have hP : Hid (parseQ l = none) := by show _ = _; rw [HP.out, parseO, if_pos (.inr (.inr (.inl ⟨rfl, hX0⟩)))]
              clear HP hX0 HG
              go_wp2_with fail
              rw [HR.out, hP.out]
              exact ⟨rfl, HB3.out⟩
            · have hn1 : ((n1 : Int) == 0) = false := by
                rw [beq_eq_false_iff_ne]
                intro e
                exact hX0 (HZ1.out.1 (by omega))
              have HX0 := Lib.hid hX0
              clear hX0
              go_wp2_with fail
              refine HG.out.mono ?_
              rintro e w4 ⟨gv, rfl, hgv, hb4⟩
              have HB4 := Lib.hid (HB3.out.trans (hb4.mono HB3.out.size))
              have HBB := Lib.hid hb4
              clear hb4
              go_wp2_with fail
              refine (one_any hgv).mono ?_
              rintro e w5 ⟨rfl, rfl⟩
              clear hgv
              by_cases hg : Nat.gcd X Y = 1
              · have hg' : decide (Nat.gcd X Y = 1) = true := by rw [decide_eq_true_eq]; exact hg
                have hP : Hid (parseQ l = some (mkRat (sgn true X) Y)) := by
                  show _ = _
                  rw [HP.out, parseO, if_neg]
                  rintro (h | h | h | h)
                  · exact HY0.out h
                  · first | exact HY1.out h.2 | exact absurd h.1 (by decide)
                  · first | exact HX0.out h.2 | exact absurd h.1 (by decide)
                  · exact h hg
                have HGG := Lib.hid hg
                clear hg HP
                go_wp2
                rw [HR.out, hP.out]
                refine ⟨_, rfl, IsR.made ?_ ?_ ?_, HB4.out.alloc HB4.out.size _⟩
                · rw [qneg, mk_neg _ _ _ HY0.out]
                  first | rfl | (have := HX0.out; simp [this])
                · rw [qnum, mk_num _ _ _ HY0.out, HGG.out, Nat.div_one]; exact HV1'.out.later HBB.out
                · rw [mk_den _ _ _ HY0.out, HGG.out, Nat.div_one]; exact HV2.out.later HBB.out
              · have hg' : decide (Nat.gcd X Y = 1) = false := by rw [decide_eq_false_iff_not]; exact hg
                have hP : Hid (parseQ l = none) := by show _ = _; rw [HP.out, parseO, if_pos (.inr (.inr (.inr hg)))]
                clear hg HP
                go_wp2
                rw [HR.out, hP.out]
                exact ⟨rfl, HB4.out⟩
  · rw [if_pos rfl] at hd1
    subst hd1
    go_wp2_with fail
    refine (N1.out w1).mono ?_
    intro e w2 hr1
    rcases o1 with _ | X
    · obtain ⟨rfl, hb2⟩ := hr1
      have HB2 := Lib.hid (HB1.out.trans (hb2.mono HB1.out.size))
      have hP : Hid (parseQ l = none) := by show _ = _; rw [HP.out, parseO_none]
      clear HP hb2 HB1 N1 HS1 HS2
      go_wp2_with fail
      refine (N2.out w2).mono ?_
      intro e w3 hr2
      obtain ⟨v, k, rfl, hb3⟩ : ∃ v k, e = .returned (.tuple #[v, .bool k]) ∧ Below w2.heap.size w2 w3 := by
        rcases o2 with _ | Y
        · exact ⟨_, _, hr2.1, hr2.2⟩
        · obtain ⟨v, h1, _, h3⟩ := hr2
          exact ⟨_, _, h1, h3⟩
      have HB3 := Lib.hid (HB2.out.trans (hb3.mono HB2.out.size))
      clear hr2 hb3 HB2 N2
      go_wp2
      rw [HR.out, hP.out]
      exact ⟨rfl, HB3.out⟩
    · obtain ⟨v1, rfl, hv1, hb2⟩ := hr1
      have HB2 := Lib.hid (HB1.out.trans (hb2.mono HB1.out.size))
      have HV1 := Lib.hid hv1
      have SX := Lib.hid (HS1.out X rfl)
      obtain ⟨a1, n1, cap1, rfl, hz1⟩ := hv1.shape (by decide)
      have HZ1 := Lib.hid hz1
      clear hb2 HB1 N1 HS1 hv1 hz1
      go_wp2_with fail
      refine (N2.out w2).mono ?_
      intro e w3 hr2
      rcases o2 with _ | Y
      · obtain ⟨rfl, hb3⟩ := hr2
        have HB3 := Lib.hid (HB2.out.trans (hb3.mono HB2.out.size))
        have hP : Hid (parseQ l = none) := by show _ = _; rw [HP.out, parseO_none']
        clear HP hb3 HB2 N2 HS2
        go_wp2
        rw [HR.out, hP.out]
        exact ⟨rfl, HB3.out⟩
      · obtain ⟨v2, rfl, hv2, hb3⟩ := hr2
        have HB3 := Lib.hid (HB2.out.trans (hb3.mono HB2.out.size))
        have HV2 := Lib.hid hv2
        have HV1' := Lib.hid (HV1.out.later hb3)
        have SY := Lib.hid (HS2.out Y rfl)
        obtain ⟨a2, n2, cap2, rfl, hz2⟩ := hv2.shape (by decide)
        clear hv2 hb3 HB2 N2 HS2 HV1
        by_cases hY0 : Y = 0
        · obtain rfl : n2 = 0 := hz2.2 hY0
          have hP : Hid (parseQ l = none) := by show _ = _; rw [HP.out, parseO, if_pos (.inl hY0)]
          clear HP hz2 hY0
          go_wp2
          rw [HR.out, hP.out]
          exact ⟨rfl, HB3.out⟩
        · have hn2 : ((n2 : Int) == 0) = false := by
            rw [beq_eq_false_iff_ne]
            intro e
            exact hY0 (hz2.1 (by omega))
          have HY0 := Lib.hid hY0
          clear hz2 hY0
          have HO := Lib.hid (one_any HV2.out)
          have HG := Lib.hid (gcd_any HV1'.out HV2.out SX.out SY.out)
          by_cases hY1 : Y = 1
          · have hd2 : decide (Y = 1) = true := by rw [decide_eq_true_eq]; exact hY1
            have hP : Hid (parseQ l = none) := by show _ = _; rw [HP.out, parseO, if_pos (.inr (.inl ⟨rfl, hY1⟩))]
            clear HP hY1 HG
            go_wp2_with fail
            refine HO.out.mono ?_
            rintro e w5 ⟨rfl, rfl⟩
            go_wp2
            rw [HR.out, hP.out]
            exact ⟨rfl, HB3.out⟩
          · have hd2 : decide (Y = 1) = false := by rw [decide_eq_false_iff_not]; exact hY1
            have HY1 := Lib.hid hY1
            clear hY1
            rcases n with _ | _
            · go_wp2_with fail
              refine HO.out.mono ?_
              rintro e w5 ⟨rfl, rfl⟩
              go_wp2_with fail
              refine HG.out.mono ?_
              rintro e w4 ⟨gv, rfl, hgv, hb4⟩
              have HB4 := Lib.hid (HB3.out.trans (hb4.mono HB3.out.size))
              have HBB := Lib.hid hb4
              clear hb4
              go_wp2_with fail
              refine (one_any hgv).mono ?_
              rintro e w5 ⟨rfl, rfl⟩
              clear hgv
              by_cases hg : Nat.gcd X Y = 1
              · have hg' : decide (Nat.gcd X Y = 1) = true := by rw [decide_eq_true_eq]; exact hg
                have hP : Hid (parseQ l = some (mkRat (sgn false X) Y)) := by
                  show _ = _
                  rw [HP.out, parseO, if_neg]
                  rintro (h | h | h | h)
                  · exact HY0.out h
                  · first | exact HY1.out h.2 | exact absurd h.1 (by decide)
                  · first | exact HX0.out h.2 | exact absurd h.1 (by decide)
                  · exact h hg
                have HGG := Lib.hid hg
                clear hg HP
                go_wp2
                rw [HR.out, hP.out]
                refine ⟨_, rfl, IsR.made ?_ ?_ ?_, HB4.out.alloc HB4.out.size _⟩
                · rw [qneg, mk_neg _ _ _ HY0.out]
                  first | rfl | (have := HX0.out; simp [this])
                · rw [qnum, mk_num _ _ _ HY0.out, HGG.out, Nat.div_one]; exact HV1'.out.later HBB.out
                · rw [mk_den _ _ _ HY0.out, HGG.out, Nat.div_one]; exact HV2.out.later HBB.out
              · have hg' : decide (Nat.gcd X Y = 1) = false := by rw [decide_eq_false_iff_not]; exact hg
                have hP : Hid (parseQ l = none) := by show _ = _; rw [HP.out, parseO, if_pos (.inr (.inr (.inr hg)))]
                clear hg HP
                go_wp2
                rw [HR.out, hP.out]
                exact ⟨rfl, HB4.out⟩
            · by_cases hX0 : X = 0
              · obtain rfl : n1 = 0 := HZ1.out.2 hX0
                have hP : Hid (parseQ l = none) := by show _ = _; rw [HP.out, parseO, if_pos (.inr (.inr (.inl ⟨rfl, hX0⟩)))]
                clear HP hX0 HG
                go_wp2_with fail
                refine HO.out.mono ?_
                rintro e w5 ⟨rfl, rfl⟩
                go_wp2
                rw [HR.out, hP.out]
                exact ⟨rfl, HB3.out⟩
              · have hn1 : ((n1 : Int) == 0) = false := by
                  rw [beq_eq_false_iff_ne]
                  intro e
                  exact hX0 (HZ1.out.1 (by omega))
                have HX0 := Lib.hid hX0
                clear hX0
                go_wp2_with fail
                refine HO.out.mono ?_
                rintro e w5 ⟨rfl, rfl⟩
                go_wp2_with fail
                refine HG.out.mono ?_
                rintro e w4 ⟨gv, rfl, hgv, hb4⟩
                have HB4 := Lib.hid (HB3.out.trans (hb4.mono HB3.out.size))
                have HBB := Lib.hid hb4
                clear hb4
                go_wp2_with fail
                refine (one_any hgv).mono ?_
                rintro e w5 ⟨rfl, rfl⟩
                clear hgv
                by_cases hg : Nat.gcd X Y = 1
                · have hg' : decide (Nat.gcd X Y = 1) = true := by rw [decide_eq_true_eq]; exact hg
                  have hP : Hid (parseQ l = some (mkRat (sgn true X) Y)) := by
                    show _ = _
                    rw [HP.out, parseO, if_neg]
                    rintro (h | h | h | h)
                    · exact HY0.out h
                    · first | exact HY1.out h.2 | exact absurd h.1 (by decide)
                    · first | exact HX0.out h.2 | exact absurd h.1 (by decide)
                    · exact h hg
                  have HGG := Lib.hid hg
                  clear hg HP
                  go_wp2
                  rw [HR.out, hP.out]
                  refine ⟨_, rfl, IsR.made ?_ ?_ ?_, HB4.out.alloc HB4.out.size _⟩
                  · rw [qneg, mk_neg _ _ _ HY0.out]
                    first | rfl | (have := HX0.out; simp [this])
                  · rw [qnum, mk_num _ _ _ HY0.out, HGG.out, Nat.div_one]; exact HV1'.out.later HBB.out
                  · rw [mk_den _ _ _ HY0.out, HGG.out, Nat.div_one]; exact HV2.out.later HBB.out
                · have hg' : decide (Nat.gcd X Y = 1) = false := by rw [decide_eq_false_iff_not]; exact hg
                  have hP : Hid (parseQ l = none) := by show _ = _; rw [HP.out, parseO, if_pos (.inr (.inr (.inr hg)))]
                  clear hg HP
                  go_wp2
                  rw [HR.out, hP.out]
                  exact ⟨rfl, HB4.out⟩

theorem parse_any (s : ByteArray) (w : World) (hs : s.size ≤ 10000) (hm : Ml w) :
    Calls Tryz.prog 22 #[.string s] w (RetP (parseQ s.data.toList) w) := parse_core s w hs hm
end Go.Proofs.YtemhidlaaommaaaGreatDoor
/- Contracts: short. -/
namespace Go.Proofs.YtemhidlaaommaaaGreatDoor
open Go.RowKit

/-- 2 to the 40th -/
abbrev T40 : Nat := 1099511627776

/-- X with at most two digits -/
theorem short_len {X n : Nat} {D : Nat → Nat} (r : Rep B32 D n X) (h : X ≤ T40) : n ≤ 2 :=
  r.len_le (by decide) (Nat.lt_of_le_of_lt h (by decide))
theorem short_big {X : Nat} {x : Value} {w : World} (hx : IsN B32 w x X) (h : T40 < X) :
    Calls Tryz.prog 93 #[x] w fun e w' => e = .returned (.tuple #[.int .i64 0, .bool false]) ∧ Below w.heap.size w w' := by
  have hc : cmpN X T40 = 1 := by unfold cmpN; rw [if_neg (by omega), if_pos h]
  have C := Lib.hid (fun (w1 : World) (y : Value) (hb : Below w.heap.size w w1) (hy : IsN B32 w1 y T40) => cmp_any (hx.later hb) hy)
  obtain ⟨a, n, cap, rfl, -⟩ := hx.shape (by decide)
  clear hx h
  go_enter Tryz.func93, Tryz.ntmps93
  go_wp2_with fail
  refine (natOf_any T40 (by decide) _).mono ?_
  rintro e w1 ⟨y, rfl, hy, hb1⟩
  go_wp2_with fail
  refine (C.out w1 y hb1 hy).mono ?_
  rintro e w2 ⟨rfl, k, rfl⟩
  rw [hc]
  clear C
  go_wp2
  go_ret2
  exact ⟨rfl, hb1.trans ((below_drewN' _ _).mono hb1.size)⟩

set_option maxHeartbeats 1000000 in
set_option maxRecDepth 100000 in
theorem short_small {X : Nat} {x : Value} {w : World} (hx : IsN B32 w x X) (h : X ≤ T40) :
    Calls Tryz.prog 93 #[x] w fun e w' => e = .returned (.tuple #[.int .i64 X, .bool true]) ∧ Below w.heap.size w w' := by
  have hc : decide ((0 : Int) < cmpN X T40) = false := by
    rw [decide_eq_false_iff_not]; unfold cmpN
    split
    · omega
    · rw [if_neg (by omega)]; omega
  obtain ⟨cv, hcv⟩ : ∃ cv, cv = cmpN X T40 := ⟨_, rfl⟩
  have C := Lib.hid (fun (w1 : World) (y : Value) (hb : Below w.heap.size w w1) (hy : IsN B32 w1 y T40) => cmp_any (hx.later hb) hy)
  rw [← hcv] at C hc
  clear hcv
  have hx' := Lib.hid hx
  obtain ⟨n, D, r, s⟩ := hx
  obtain ⟨ad, gb, cap, rfl, h1, -, -, h2⟩ := s.shape
  have hn := short_len r h
  clear s
  go_enter Tryz.func93, Tryz.ntmps93
  go_wp2_with fail
  refine (natOf_any T40 (by decide) _).mono ?_
  rintro e w1 ⟨y, rfl, hy, hb1⟩
  go_wp2_with fail
  refine (C.out w1 y hb1 hy).mono ?_
  rintro e w2 ⟨rfl, k, rfl⟩
  clear C hy
  go_wp2
  have HH1 := Lib.hid h1
  have HB1 := Lib.hid hb1
  have HR := Lib.hid r
  have HN := Lib.hid hn
  have HX := Lib.hid h
  obtain ⟨w2, hw2⟩ : ∃ w2, w2 = w1.drewN k := ⟨_, rfl⟩
  have HB2 : Hid (Below w.heap.size w w2) := by rw [hw2]; exact hb1.trans ((below_drewN' _ _).mono hb1.size)
  have HC : Hid (Cells w2 gb n D) := h2.later HB2.out (Nat.le_refl _)
  rw [← hw2]
  clear hw2 hb1 h1 h2 r hn h
  go_loopw [4, 13] (fun av iv wy => ∃ i : Nat, i ≤ n ∧ iv = .int .i64 (i : Nat) ∧ av = .int .u64 ((fval B32 D i : Nat) : Int) ∧ wy = w2) (fun _ iv _ => n - (intOf iv).toNat)
  case atStart => exact ⟨0, Nat.zero_le _, rfl, rfl, rfl⟩
  case round =>
    obtain ⟨i, hi, rfl, rfl, rfl⟩ := hrel
    by_cases hlt : i < n
    · have hn2 := HN.out
      have hd := HR.out.dig i hlt
      obtain rfl : ad = some ⟨gb, 0, none⟩ := HH1.out (by omega)
      have hcell : wr.cell? ⟨gb, i, none⟩ = some (.int .u32 (D i)) := HC.out i hlt
      obtain rfl | rfl : i = 0 ∨ i = 1 := by omega
      · go_wp2
        refine ⟨⟨1, by omega, rfl, ?_, trivial⟩, ?_⟩
        · rw [wrap_u64_nat (by unfold B32 at hd; omega), wrap_u64_nat (by unfold B32 at hd; omega), show fval B32 D 0 = 0 from rfl, u64_or_nat 0 (D 0) (by decide) (by unfold B32 at hd; omega)]
          simp [fval]
        · show n - 1 < n - 0
          omega
      · go_wp2
        refine ⟨⟨2, by omega, rfl, ?_, trivial⟩, ?_⟩
        · have e0 : fval B32 D 1 < 4294967296 := by have := fval_lt (B := B32) (D := D) 1 (fun j hj => HR.out.dig j (by omega)); rw [Nat.pow_one] at this; exact this
          have d1 : D 1 < 4294967296 := hd
          have e1 : (((D 1 : Nat) : Int) * 4294967296) = ((D 1 * 4294967296 : Nat) : Int) := by simp
          have e2 : D 1 * 4294967296 < 18446744073709551616 := by omega
          have e3 : (fval B32 D 1) ||| (D 1 * 4294967296) = fval B32 D 2 := by
            rw [Nat.or_comm, nat_join 32 (D 1 * 4294967296) (fval B32 D 1) (Nat.mul_mod_left _ _) e0, show fval B32 D 2 = fval B32 D 1 + B32 ^ 1 * D 1 from rfl, Nat.pow_one, Nat.mul_comm, Nat.add_comm]
          rw [wrap_u64_nat (by omega), e1, wrap_u64_nat e2, u64_or_nat (fval B32 D 1) (D 1 * 4294967296) (by omega) e2, e3]
        · show n - 2 < n - 1
          omega
    · obtain rfl : i = n := by omega
      go_wp2
      go_ret2
      refine ⟨?_, HB2.out⟩
      have e1 := HR.out.eq
      have e2 := HX.out
      have e3 : wrap64 ((fval B32 D i : Nat) : Int) = (X : Int) := by
        rw [e1, wrap64]; unfold T40 at e2; omega
      exact congrArg (fun z => Ending.returned (.tuple #[.int .i64 z, .bool true])) e3

/-- short: the number as an int64, if it is at most 2 to the 40th -/
theorem short_any {X : Nat} {x : Value} {w : World} (hx : IsN B32 w x X) :
    Calls Tryz.prog 93 #[x] w fun e w' => e = .returned (.tuple #[.int .i64 (if X ≤ T40 then (X : Int) else 0), .bool (decide (X ≤ T40))]) ∧ Below w.heap.size w w' := by
  by_cases h : X ≤ T40
  · rw [if_pos h, show decide (X ≤ T40) = true from by simp [h]]
    exact short_small hx h
  · rw [if_neg h, show decide (X ≤ T40) = false from by simp [h]]
    exact short_big hx (by omega)
end Go.Proofs.YtemhidlaaommaaaGreatDoor
/- Values in the program; contracts: plain, missing, gcd, truth. -/
namespace Go.Proofs.YtemhidlaaommaaaGreatDoor
open Go.RowKit

/-- a value: its kind, its two numbers, its string -/
structure Va where
  kind : Int
  num : Int
  den : Int
  str : List UInt8
deriving DecidableEq
/-- the value in the program -/
abbrev Va.v (x : Va) : Value := .agg #[.int .i64 x.kind, .int .i64 x.num, .int .i64 x.den, .string ⟨x.str.toArray⟩]

theorem plain_any (x : Va) (w : World) :
    Calls Tryz.prog 130 #[x.v] w fun e w' => e = .returned (.bool (decide (x.den = 0 ∧ x.str = []))) ∧ Below w.heap.size w w' := by
  obtain ⟨k, n, d, s⟩ := x
  go_enter Tryz.func130, Tryz.ntmps130
  by_cases h : d = 0
  · subst h
    go_wp2
    go_ret
    refine ⟨ret_bool ?_, below_alloc _ _⟩
    cases s <;> simp
  · go_wp2
    go_ret
    refine ⟨ret_bool ?_, below_alloc _ _⟩
    simp [h]

theorem missing_any (r : Int) (w : World) :
    Calls Tryz.prog 94 #[.int .i64 r] w fun e w' => e = .returned (Va.v ⟨0, r, 0, []⟩) ∧ Below w.heap.size w w' := by
  go_enter Tryz.func94, Tryz.ntmps94
  go_wp2
  go_returns
  exact ⟨rfl, below_alloc _ _⟩

theorem right1_any (r : Int) (w : World) :
    Calls Tryz.prog 132 #[.int .i32 r] w fun e w' => e = .returned (.bool (decide (r < 32 ∨ 126 < r))) ∧ w' = w := by
  go_enter Tryz.func132, Tryz.ntmps132
  by_cases h : r < 32
  · have h1 : decide (r < 32) = true := by simp [h]
    go_wp2
    go_ret
    exact ⟨ret_bool (by simp [h]), rfl⟩
  · have h1 : decide (r < 32) = false := by simp [h]
    go_wp2
    go_ret
    exact ⟨ret_bool (by simp), rfl⟩
end Go.Proofs.YtemhidlaaommaaaGreatDoor
/- Contracts: gcd of int64, right. -/
namespace Go.Proofs.YtemhidlaaommaaaGreatDoor
open Go.RowKit

theorem igcd_any (a b : Nat) (ha : a ≤ T40) (hb : b ≤ T40) (w : World) :
    Calls Tryz.prog 131 #[.int .i64 a, .int .i64 b] w (RetQ (.int .i64 (Nat.gcd a b)) w) := by
  go_enter Tryz.func131, Tryz.ntmps131
  go_wp2
  go_loopw [0, 1] (fun x y wr => ∃ m n : Nat, x = .int .i64 m ∧ y = .int .i64 n ∧ m ≤ T40 ∧ n ≤ T40 ∧ Hid (Nat.gcd m n = Nat.gcd a b) ∧ Hid (∃ k, wr = w.drewN k)) (fun _ y _ => (intOf y).toNat)
  case atStart => exact ⟨a, b, rfl, rfl, ha, hb, rfl, 0, rfl⟩
  case round =>
    obtain ⟨m, n, rfl, rfl, hm, hn, hg, hw⟩ := hrel
    by_cases h0 : n = 0
    · subst h0
      go_wp2
      go_ret
      refine ⟨ret_int ?_, hw.out⟩
      rw [← hg.out, Nat.gcd_zero_right]
    · have hz : ((n : Int) == 0) = false := by rw [beq_eq_false_iff_ne]; omega
      have hz2 : (n : Int) ≠ 0 := by omega
      go_wp2
      go_quiet (fail)
      go_wp2
      have hlt : m % n < n := Nat.mod_lt _ (by omega)
      refine ⟨⟨n, m % n, rfl, rfl, hn, by omega, ?_, ?_⟩, ?_⟩
      · show Nat.gcd n (m % n) = Nat.gcd a b
        rw [Nat.gcd_comm, ← Nat.gcd_rec, Nat.gcd_comm]; exact hg.out
      · obtain ⟨k, rfl⟩ := hw.out
        exact ⟨k + nq, by rw [World.drewN_drewN]⟩
      · show ((m : Int) % (n : Int)).toNat < ((n : Nat) : Int).toNat
        rw [← Int.natCast_emod, Int.toNat_natCast, Int.toNat_natCast]; exact hlt
end Go.Proofs.YtemhidlaaommaaaGreatDoor
