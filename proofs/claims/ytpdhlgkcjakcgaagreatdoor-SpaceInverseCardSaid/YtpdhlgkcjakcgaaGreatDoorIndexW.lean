/- The walks of SpaceIndex and SpaceInverse. -/
import Derived.IntWalk
import Derived.BigQuiet
import Derived.Test.YtpdhlgkcjakcgaaGreatDoorS15
import Derived.Test.YtpdhlgkcjakcgaaGreatDoorS17
import Derived.Test.YtpdhlgkcjakcgaaGreatDoorS26
import Derived.Test.YtpdhlgkcjakcgaaGreatDoorSameA
namespace Go.Proofs.YtpdhlgkcjakcgaaGreatDoor
open Go.RowKit

set_option maxHeartbeats 8000000 in
set_option maxRecDepth 100000 in
theorem spaceIndex_any (d : List DimT) (c : List Int) (k : Int) (vd vc : Value) (w : World) (hm : Ml w) (hd : Dims w vd d) (hc : Ints w vc c) (hs : StrD d) :
    Calls Tryz.prog 11 #[vd, vc, .int .i64 k] w (RetV' (.bool true) w) := by
  have CW := Lib.hid (fun w1 (hb : Below w.heap.size w w1) => works_any w1 (hm.later hb))
  have CS := Lib.hid (lschema_any d [] vd (.slice none 0 0) w hd (Ls.nil _ _ _ (by omega)))
  have CV1 := Lib.hid (fun w1 (hb : Below w.heap.size w w1) => volume_any d vd w1 (hd.later DimR.lasts hb) hs)
  have CV2 := Lib.hid (fun w1 (hb : Below w.heap.size w w1) => rvolume_any d vd w1 (hd.later DimR.lasts hb) hs)
  have CI1 := Lib.hid (fun w1 (hb : Below w.heap.size w w1) => index_any d c vd vc w1 (hd.later DimR.lasts hb) (hc.later IntR.lasts hb) hs)
  have CI2 := Lib.hid (fun w1 (hb : Below w.heap.size w w1) => rindex_any d c vd vc w1 (hd.later DimR.lasts hb) (hc.later IntR.lasts hb) hs)
  have CA1 := Lib.hid (fun w1 (hb : Below w.heap.size w w1) => at_any d k vd w1 (hd.later DimR.lasts hb) hs)
  have CA2 := Lib.hid (fun w1 (hb : Below w.heap.size w w1) => rat_any d k vd w1 (hd.later DimR.lasts hb) hs)
  obtain ⟨p0, k0, rfl, -⟩ := hd.shape
  obtain ⟨p3, k3, rfl, -⟩ := hc.shape
  generalize volQ d = V at *
  generalize volE d = E at *
  generalize idxQ d c = I at *
  generalize idxE d c = F at *
  generalize atQ d k = A at *
  generalize atE d k = G at *
  clear hm hd hc hs
  have t1 : (V == V) = true := beq_iff_eq.2 rfl
  have t2 : (E == E) = true := beq_iff_eq.2 rfl
  have t3 : (I == I) = true := beq_iff_eq.2 rfl
  have t4 : (F == F) = true := beq_iff_eq.2 rfl
  have t5 : (G == G) = true := beq_iff_eq.2 rfl
  go_enter Tryz.func11, Tryz.ntmps11
  go_wp2_with fail
  refine CS.out.mono ?_
  rintro e x1 ⟨b, rfl, hf1, rfl⟩
  clear CS hf1
  cases b with
  | false =>
    go_wp2_with fail
    refine (CW.out _ (Below.refl _ _)).mono ?_
    rintro e z1 ⟨rfl, hb⟩
    have HBE := Lib.hid hb
    clear hb CW
    go_wp2
    go_ret
    exact ⟨rfl, HBE.out⟩
  | true =>
    by_cases t0 : 10 < c.length
    · have s0 : decide ((10 : Int) < c.length) = true := decide_eq_true (by omega)
      clear t0
      go_wp2_with fail
      refine (CW.out _ (Below.refl _ _)).mono ?_
      rintro e z1 ⟨rfl, hb⟩
      have HBE := Lib.hid hb
      clear hb CW
      go_wp2
      go_ret
      exact ⟨rfl, HBE.out⟩
    · have s0 : decide ((10 : Int) < c.length) = false := decide_eq_false (by omega)
      clear t0
      go_wp2_with fail
      refine (CV1.out _ (Below.refl _ _)).mono ?_
      rintro e y1 ⟨rfl, hb⟩
      have B1 := Lib.hid hb
      clear hb CV1 s0
      go_wp2_with fail
      refine (CV2.out _ B1.out).mono ?_
      rintro e y2 ⟨rfl, hb⟩
      have B2 := Lib.hid (below_keep B1.out hb)
      clear hb CV2
      go_wp2_with fail
      refine (CI1.out _ B2.out).mono ?_
      rintro e y3 ⟨rfl, hb⟩
      have B3 := Lib.hid (below_keep B2.out hb)
      clear hb CI1
      go_wp2_with fail
      refine (CI2.out _ B3.out).mono ?_
      rintro e y4 ⟨rfl, hb⟩
      have B4 := Lib.hid (below_keep B3.out hb)
      clear hb CI2
      go_wp2_with fail
      refine (CA1.out _ B4.out).mono ?_
      rintro e y5 ⟨v1, rfl, hv1, hb⟩
      have B5 := Lib.hid (below_keep B4.out hb)
      have HV1 := Lib.hid hv1
      obtain ⟨q1, kq1, rfl, -⟩ := hv1.ints.shape
      clear hb CA1 hv1
      go_wp2_with fail
      refine (CA2.out _ B5.out).mono ?_
      rintro e y6 ⟨v2, rfl, hv2, hb⟩
      have B6 := Lib.hid (below_keep B5.out hb)
      have CE := Lib.hid (sameInts_any A A _ _ y6 (HV1.out.later hb).ints hv2.ints)
      obtain ⟨q2, kq2, rfl, -⟩ := hv2.ints.shape
      rw [decide_eq_true rfl] at CE
      clear hb CA2 hv2
      go_wp2_with fail
      refine CE.out.mono ?_
      rintro e y7 ⟨rfl, n7, rfl⟩
      have B7 := Lib.hid (below_keep B6.out (below_drewN' y6 n7))
      clear CE
      go_wp2_with fail
      refine (CW.out _ B7.out).mono ?_
      rintro e z1 ⟨rfl, hb⟩
      have HBE := Lib.hid (below_keep B7.out hb)
      clear hb CW
      go_wp2
      go_ret
      exact ⟨rfl, HBE.out⟩
theorem inv_facts {d : List DimT} (h : volE d = 0) {k : Int} (h0 : 0 ≤ k) (h1 : k < volQ d) : atE d k = 0 ∧ atQ d k = (atL k d).1 ∧ idxE d (atL k d).1 = 0 ∧ idxQ d (atL k d).1 = k := by
  obtain ⟨v1, v2, v3, hg⟩ := vol_range h
  have e1 : atE d k = 0 := by unfold atE; rw [if_neg (fun h' => h' h), if_neg (by omega)]
  have e2 : idxE d (atL k d).1 = 0 := by
    unfold idxE
    rw [if_neg (fun h' => h' h), if_neg (fun h' => h' (atL_length k d)), if_neg (by rw [atL_of hg]; decide)]
  exact ⟨e1, if_pos e1, e2, by unfold idxQ; rw [if_pos e2]; exact idx_at0 hg h0 (by omega)⟩
theorem inv_nil {d : List DimT} (h : volE d ≠ 0) : volQ d = 0 ∧ idxE d [] = volE d ∧ idxQ d [] = 0 ∧ atE d 0 = volE d ∧ atQ d 0 = [] := by
  have e1 : idxE d [] = volE d := if_pos h
  have e2 : atE d 0 = volE d := if_pos h
  exact ⟨if_neg h, e1, if_neg (by rw [e1]; exact h), e2, if_neg (by rw [e2]; exact h)⟩
set_option maxHeartbeats 8000000 in
set_option maxRecDepth 100000 in
theorem spaceInverse_any (d : List DimT) (a b : Int) (ha : 0 ≤ a ∧ a ≤ 18446744073709551615) (hb : 0 ≤ b ∧ b ≤ 18446744073709551615) (vd : Value) (w : World) (hm : Ml w) (hd : Dims w vd d) (hs : StrD d) :
    Calls Tryz.prog 12 #[vd, .int .u64 a, .int .u64 b] w (RetV' (.bool true) w) := by
  have CW := Lib.hid (fun w1 (hb : Below w.heap.size w w1) => works_any w1 (hm.later hb))
  have CS := Lib.hid (lschema_any d [] vd (.slice none 0 0) w hd (Ls.nil _ _ _ (by omega)))
  have CV := Lib.hid (fun w1 (hb : Below w.heap.size w w1) => volume_any d vd w1 (hd.later DimR.lasts hb) hs)
  have CI := Lib.hid (fun (u : Value) (l : List Int) w1 (hb : Below w.heap.size w w1) (hu : Ints w1 u l) => index_any d l vd u w1 (hd.later DimR.lasts hb) hu hs)
  have CA := Lib.hid (fun (k : Int) w1 (hb : Below w.heap.size w w1) => at_any d k vd w1 (hd.later DimR.lasts hb) hs)
  obtain ⟨p0, k0, rfl, -⟩ := hd.shape
  clear hm hd hs
  by_cases hE : volE d = 0
  · obtain ⟨v1, v2, v3, hg⟩ := vol_range hE
    obtain ⟨V, hV⟩ : ∃ V, V = volQ d := ⟨_, rfl⟩
    rw [hE, ← hV] at CV
    rw [← hV] at v1 v2 v3
    obtain ⟨i, hi⟩ : ∃ i, i = a % V := ⟨_, rfl⟩
    obtain ⟨k, hk⟩ : ∃ k, k = b % V := ⟨_, rfl⟩
    have hi0 : 0 ≤ i := by rw [hi]; exact Int.emod_nonneg _ (by omega)
    have hi1 : i < V := by rw [hi]; exact Int.emod_lt_of_pos _ (by omega)
    have hk0 : 0 ≤ k := by rw [hk]; exact Int.emod_nonneg _ (by omega)
    have hk1 : k < V := by rw [hk]; exact Int.emod_lt_of_pos _ (by omega)
    obtain ⟨f1, f2, f3, f4⟩ := inv_facts hE hi0 (by omega)
    obtain ⟨g1, g2, g3, g4⟩ := inv_facts hE hk0 (by omega)
    have hc := at_cmp hg hi0 (by omega) hk0 (by omega)
    have CAi := Lib.hid (fun w1 hb => CA.out i w1 hb)
    have CAk := Lib.hid (fun w1 hb => CA.out k w1 hb)
    rw [f1, f2] at CAi
    rw [g1, g2] at CAk
    have CIi := Lib.hid (fun u w1 hb hu => CI.out u (atL i d).1 w1 hb hu)
    have CIk := Lib.hid (fun u w1 hb hu => CI.out u (atL k d).1 w1 hb hu)
    rw [f3, f4] at CIi
    rw [g3, g4] at CIk
    have CC := Lib.hid (fun u v w1 (hu : Ints w1 u (atL i d).1) (hv : Ints w1 v (atL k d).1) => compare_any (atL i d).1 (atL k d).1 u v w1 hu hv)
    rw [hc] at CC
    have hli := atL_length i d
    have hlk := atL_length k d
    generalize (atL i d).1 = X at *
    generalize (atL k d).1 = Y at *
    have c1 : IntKind.u64.wrap V = V := by rw [IntKind.wrap_u64]; omega
    have c2 : a.tmod V = i := by rw [hi]; exact Int.tmod_eq_emod_of_nonneg ha.1
    have c3 : b.tmod V = k := by rw [hk]; exact Int.tmod_eq_emod_of_nonneg hb.1
    have c4 : IntKind.u64.wrap i = i := by rw [IntKind.wrap_u64]; omega
    have c5 : IntKind.u64.wrap k = k := by rw [IntKind.wrap_u64]; omega
    have c6 : IntKind.i64.wrap i = i := IntWalk.i64_in _ (by omega)
    have c7 : IntKind.i64.wrap k = k := IntWalk.i64_in _ (by omega)
    have c8 : ¬ V = 0 := by omega
    have t0 : decide (V < 1) = false := decide_eq_false (by omega)
    have t1 : (i == i) = true := beq_iff_eq.2 rfl
    have t2 : (k == k) = true := beq_iff_eq.2 rfl
    obtain ⟨z, hz⟩ : ∃ z : Int, z = if i < k then -1 else if k < i then 1 else 0 := ⟨_, rfl⟩
    rw [← hz] at CC
    have hcs : (decide (i < k) = true ∧ decide (k < i) = false ∧ z = -1) ∨ (decide (i < k) = false ∧ decide (k < i) = true ∧ z = 1) ∨ (decide (i < k) = false ∧ decide (k < i) = false ∧ z = 0) := by
      by_cases h1 : i < k
      · exact .inl ⟨decide_eq_true h1, decide_eq_false (by omega), by rw [hz, if_pos h1]⟩
      · by_cases h2 : k < i
        · exact .inr (.inl ⟨decide_eq_false h1, decide_eq_true h2, by rw [hz, if_neg h1, if_pos h2]⟩)
        · exact .inr (.inr ⟨decide_eq_false h1, decide_eq_false h2, by rw [hz, if_neg h1, if_neg h2]⟩)
    have HCS := Lib.hid hcs
    clear hE v1 v2 v3 hg hV hi hk hi0 hi1 hk0 hk1 f1 f2 f3 f4 g1 g2 g3 g4 hc CA CI ha hb hz hcs hli hlk
    go_enter Tryz.func12, Tryz.ntmps12
    go_wp2_with fail
    refine CS.out.mono ?_
    rintro e x1 ⟨b, rfl, hf1, rfl⟩
    clear CS hf1
    cases b with
    | false =>
      go_wp2_with fail
      refine (CW.out _ (Below.refl _ _)).mono ?_
      rintro e z1 ⟨rfl, hb⟩
      have HBE := Lib.hid hb
      clear hb CW
      go_wp2
      go_ret
      exact ⟨rfl, HBE.out⟩
    | true =>
      go_wp2_with fail
      refine (CV.out _ (Below.refl _ _)).mono ?_
      rintro e y1 ⟨rfl, hb⟩
      have B1 := Lib.hid hb
      clear hb CV
      go_wp2_with fail
      go_quiet (fail)
      have B1' := Lib.hid (below_keep B1.out (below_drewN' y1 nq))
      clear c1 c2 c3 c4 c5 c6 c7 c8
      go_wp2_with fail
      refine (CAi.out _ B1'.out).mono ?_
      rintro e y2 ⟨v1, rfl, hv1, hb⟩
      have B2 := Lib.hid (below_keep B1'.out hb)
      have HV1 := Lib.hid hv1.ints
      obtain ⟨q1, kq1, rfl, -⟩ := hv1.ints.shape
      clear hb CAi hv1
      go_wp2_with fail
      refine (CAk.out _ B2.out).mono ?_
      rintro e y3 ⟨v2, rfl, hv2, hb⟩
      have B3 := Lib.hid (below_keep B2.out hb)
      have HV13 := Lib.hid (HV1.out.later IntR.lasts hb)
      have HV2 := Lib.hid hv2.ints
      obtain ⟨q2, kq2, rfl, -⟩ := hv2.ints.shape
      clear hb CAk hv2 HV1
      go_wp2_with fail
      refine (CIi.out _ _ B3.out HV13.out).mono ?_
      rintro e y4 ⟨rfl, hb⟩
      have B4 := Lib.hid (below_keep B3.out hb)
      have HV14 := Lib.hid (HV13.out.later IntR.lasts hb)
      have HV24 := Lib.hid (HV2.out.later IntR.lasts hb)
      clear hb CIi HV13 HV2
      go_wp2_with fail
      refine (CIk.out _ _ B4.out HV24.out).mono ?_
      rintro e y5 ⟨rfl, hb⟩
      have B5 := Lib.hid (below_keep B4.out hb)
      have HV15 := Lib.hid (HV14.out.later IntR.lasts hb)
      have HV25 := Lib.hid (HV24.out.later IntR.lasts hb)
      clear hb CIk HV14 HV24
      rcases HCS.out with ⟨s1, s2, e9⟩ | ⟨s1, s2, e9⟩ | ⟨s1, s2, e9⟩
      all_goals
        subst e9
        clear HCS
        go_wp2_with fail
        refine (CC.out _ _ _ HV15.out HV25.out).mono ?_
        rintro e y6 ⟨rfl, rfl⟩
        clear CC
        go_wp2_with fail
        refine (CW.out _ B5.out).mono ?_
        rintro e z1 ⟨rfl, hb⟩
        have HBE := Lib.hid (below_keep B5.out hb)
        clear hb CW
        go_wp2
        go_ret
        exact ⟨rfl, HBE.out⟩
  · obtain ⟨h1, h2, h3, h4, h5⟩ := inv_nil hE
    rw [h1] at CV
    have CI0 := Lib.hid (fun w1 hb => CI.out (.slice none 0 0) [] w1 hb (Ls.nil _ _ _ (by omega)))
    have CA0 := Lib.hid (fun w1 hb => CA.out 0 w1 hb)
    rw [h2, h3] at CI0
    rw [h4, h5] at CA0
    have t1 : (volE d != 0) = true := bne_iff_ne.2 hE
    have t2 : (volE d == volE d) = true := beq_iff_eq.2 rfl
    generalize volE d = E at *
    clear hE h1 h2 h3 h4 h5 CA CI ha hb
    go_enter Tryz.func12, Tryz.ntmps12
    go_wp2_with fail
    refine CS.out.mono ?_
    rintro e x1 ⟨b, rfl, hf1, rfl⟩
    clear CS hf1
    cases b with
    | false =>
      go_wp2_with fail
      refine (CW.out _ (Below.refl _ _)).mono ?_
      rintro e z1 ⟨rfl, hb⟩
      have HBE := Lib.hid hb
      clear hb CW
      go_wp2
      go_ret
      exact ⟨rfl, HBE.out⟩
    | true =>
      go_wp2_with fail
      refine (CV.out _ (Below.refl _ _)).mono ?_
      rintro e y1 ⟨rfl, hb⟩
      have B1 := Lib.hid hb
      clear hb CV
      go_wp2_with fail
      refine (CI0.out _ B1.out).mono ?_
      rintro e y2 ⟨rfl, hb⟩
      have B2 := Lib.hid (below_keep B1.out hb)
      clear hb CI0
      go_wp2_with fail
      refine (CA0.out _ B2.out).mono ?_
      rintro e y3 ⟨v, rfl, hv, hb⟩
      have B3 := Lib.hid (below_keep B2.out hb)
      obtain ⟨q1, kq1, rfl, -⟩ := hv.ints.shape
      clear hb CA0 hv
      go_wp2_with fail
      refine (CW.out _ B3.out).mono ?_
      rintro e z1 ⟨rfl, hb⟩
      have HBE := Lib.hid (below_keep B3.out hb)
      clear hb CW
      go_wp2
      go_ret
      exact ⟨rfl, HBE.out⟩
end Go.Proofs.YtpdhlgkcjakcgaaGreatDoor
