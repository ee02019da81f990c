/- Lemmas and contracts, each under its own condition: The walk of SpaceHull: the whole. The walk of SpaceHull: the whole. SpaceHull: the whole. -/
import Derived.BigQuiet
import Derived.Deep.RegionHeld3
import Derived.Test.YtkliekoheeeamaaGreatDoorS43
/- The walk of SpaceHull: the whole. -/
namespace Go.Proofs.YtkliekoheeeamaaGreatDoor
open Go.RowKit

set_option maxHeartbeats 16000000 in
set_option maxRecDepth 100000 in
theorem hull_badx (x : ArrT) (al ah bl bh : List Int) (vd va vc u1 u2 u3 u4 : Value) (w : World) (hm : Ml w) (hx : ArrR w vd va vc x) (h1 : Ints w u1 al) (h2 : Ints w u2 ah) (h3 : Ints w u3 bl) (h4 : Ints w u4 bh) (hs : StrD x.dims) (hsa : StrA x.attrs) (hl : al.length ≤ 10 ∧ ah.length ≤ 10 ∧ bl.length ≤ 10 ∧ bh.length ≤ 10) (h : checkE x ≠ 0) :
  Calls Tryz.prog 6 #[.agg #[vd, va, vc], .agg #[u1, u2], .agg #[u3, u4]] w (RetV' (.bool true) w) := by
 have CW := Lib.hid (fun w1 (hb : Below w.heap.size w w1) => works_any w1 (hm.later hb))
 have CFW := Lib.hid (fun w1 (hb : Below w.heap.size w w1) => few_any x 60 vd va vc w1 (hx.later hb))
 obtain ⟨E, hE⟩ : ∃ E, E = checkE x := ⟨_, rfl⟩
 have C1 := Lib.hid (fun w1 (hb : Below w.heap.size w w1) => check_self x vd va vc w1 (hx.later hb) hs hsa E hE.symm)
 have tE : (E != 0) = true := by rw [bne_iff_ne, hE]; exact h
 have C2 := Lib.hid (fun w1 (hb : Below w.heap.size w w1) => cut_is x _ 2 al ah vd va vc u1 u2 w1 (hx.later hb) (h1.later IntR.lasts hb) (h2.later IntR.lasts hb) hs hsa rfl (cutE_bad h al ah))
 have C3 := Lib.hid (fun w1 (hb : Below w.heap.size w w1) => hull_noS x vd va vc w1 (hx.later hb) hs hsa (hull_nil (.inl h)))
 clear hE
 have HX := Lib.hid hx
 have K12 := Lib.hid (And.intro h1 h2)
 have K34 := Lib.hid (And.intro h3 h4)
 have HS := Lib.hid (And.intro hs hsa)
 have H := Lib.hid h
 have HM := Lib.hid hm
 obtain ⟨p1, k1, rfl, -⟩ := hx.dims.shape
 obtain ⟨p2, k2, rfl, -⟩ := hx.attrs.shape
 obtain ⟨p3, k3, rfl, -⟩ := hx.cells.shape
 obtain ⟨p4, k4, rfl, -⟩ := h1.shape
 obtain ⟨p5, k5, rfl, -⟩ := h2.shape
 obtain ⟨p6, k6, rfl, -⟩ := h3.shape
 obtain ⟨p7, k7, rfl, -⟩ := h4.shape
 obtain ⟨W1, hW1, hb1, hbx⟩ := hul3_at w (.slice p1 x.dims.length k1) (.slice p2 x.attrs.length k2) (.slice p3 x.cells.length k3) (.slice p4 al.length k4) (.slice p5 ah.length k5) (.slice p6 bl.length k6) (.slice p7 bh.length k7)
 have HB1 := Lib.hid hb1
 have HBX : Hid (HulB w.heap.size W1 (.slice p1 x.dims.length k1) (.slice p2 x.attrs.length k2) (.slice p3 x.cells.length k3) (.slice p4 al.length k4) (.slice p5 ah.length k5) (.slice p6 bl.length k6) (.slice p7 bh.length k7)) := hbx
 obtain ⟨⟨z0, z1, z2⟩, ⟨z3, z4⟩, z5, z6⟩ := hbx W1 (Below.refl _ _)
 have s1 : decide ((10 : Int) < al.length) = false := decide_eq_false (by omega)
 have s2 : decide ((10 : Int) < ah.length) = false := decide_eq_false (by omega)
 have s3 : decide ((10 : Int) < bl.length) = false := decide_eq_false (by omega)
 have s4 : decide ((10 : Int) < bh.length) = false := decide_eq_false (by omega)
 clear hm hx h1 h2 h3 h4 hs hsa hl h hb1 hbx
 go_enter Tryz.func6, Tryz.ntmps6
 go_upto_region 1 with (fail)
 rw [← hW1]
 clear hW1
 go_wp2_with fail
 refine (CFW.out _ HB1.out).mono ?_
 rintro e w2 ⟨b, rfl, -, hb⟩
 have HB2 := Lib.hid (below_keep HB1.out hb)
 have HC2 := Lib.hid hb
 obtain ⟨⟨d0, d1, d2⟩, ⟨d3, d4⟩, d5, d6⟩ := HBX.out w2 hb
 clear hb z0 z1 z2 z3 z4 z5 z6
 cases b with
 | false =>
  go_wp2_with fail
  refine (CW.out _ HB2.out).mono ?_
  rintro e z1 ⟨rfl, hb⟩
  have HBE := Lib.hid (below_keep HB2.out hb)
  clear hb CW
  go_wp2
  go_ret
  exact ⟨rfl, HBE.out⟩
 | true =>
  go_wp2_with fail
  refine (C1.out _ HB2.out).mono ?_
  rintro e w3 ⟨rfl, hb⟩
  have HB3 := Lib.hid (below_keep HB2.out hb)
  have HC3 := Lib.hid (below_keep HC2.out hb)
  clear hb C1 d0 d1 d2 d3 d4 d5 d6
  obtain ⟨⟨d0, d1, d2⟩, ⟨d3, d4⟩, -⟩ := HBX.out w3 HC3.out
  go_wp2_with fail
  refine (C2.out _ HB3.out).mono ?_
  rintro e w4 ⟨t1, t2, t3, rfl, n1, hb⟩
  obtain ⟨A4, hA4, hba, -⟩ := arrc_at w4 t1 t2 t3
  obtain ⟨q1, l1, rfl, -⟩ := n1.dims.shape
  obtain ⟨q2, l2, rfl, -⟩ := n1.attrs.shape
  obtain ⟨q3, l3, rfl, -⟩ := n1.cells.shape
  have HB4 := Lib.hid (below_keep HB3.out (below_keep hb hba))
  have HC4 := Lib.hid (below_keep HC3.out (below_keep hb hba))
  clear hb hba n1 C2 d0 d1 d2 d3 d4
  go_upto_region 5 with (fail)
  rw [← hA4]
  clear hA4
  obtain ⟨⟨d0, d1, d2⟩, -⟩ := HBX.out A4 HC4.out
  go_wp2_with fail
  refine (C3.out _ HB4.out).mono ?_
  rintro e w5 ⟨t1, t2, rfl, ⟨a1, n1, b1, rfl⟩, ⟨a2, n2, b2, rfl⟩, hb⟩
  obtain ⟨A5, hA5, hba, -⟩ := boxm_at' w5 (.slice a1 n1 b1) (.slice a2 n2 b2)
  have HB5 := Lib.hid (below_keep HB4.out (below_keep hb hba))
  clear hb hba C3 d0 d1 d2
  go_upto_region 6 with (fail)
  rw [← hA5]
  clear hA5
  go_wp2_with fail
  refine (CW.out _ HB5.out).mono ?_
  rintro e z9 ⟨rfl, hb⟩
  have HBE := Lib.hid (below_keep HB5.out hb)
  clear hb CW
  go_wp2
  go_ret
  exact ⟨rfl, HBE.out⟩

end Go.Proofs.YtkliekoheeeamaaGreatDoor
/- The walk of SpaceHull: the whole. -/
namespace Go.Proofs.YtkliekoheeeamaaGreatDoor
open Go.RowKit

set_option maxHeartbeats 16000000 in
set_option maxRecDepth 100000 in
theorem hull_goodx (x : ArrT) (al ah bl bh : List Int) (vd va vc u1 u2 u3 u4 : Value) (w : World) (hm : Ml w) (hx : ArrR w vd va vc x) (h1 : Ints w u1 al) (h2 : Ints w u2 ah) (h3 : Ints w u3 bl) (h4 : Ints w u4 bh) (hs : StrD x.dims) (hsa : StrA x.attrs) (hl : al.length ≤ 10 ∧ ah.length ≤ 10 ∧ bl.length ≤ 10 ∧ bh.length ≤ 10) (h : checkE x = 0) :
  Calls Tryz.prog 6 #[.agg #[vd, va, vc], .agg #[u1, u2], .agg #[u3, u4]] w (RetV' (.bool true) w) := by
 have CW := Lib.hid (fun w1 (hb : Below w.heap.size w w1) => works_any w1 (hm.later hb))
 have CFW := Lib.hid (fun w1 (hb : Below w.heap.size w w1) => few_any x 60 vd va vc w1 (hx.later hb))
 have C1 := Lib.hid (fun w1 (hb : Below w.heap.size w w1) => check_self x vd va vc w1 (hx.later hb) hs hsa 0 h)
 obtain ⟨qb, hqb⟩ : ∃ qb, qb = (hullQ x).isSome := ⟨_, rfl⟩
 obtain ⟨m, hmm⟩ : ∃ m, m = (hullQ x).getD ([], []) := ⟨_, rfl⟩
 have C2 : Hid (∀ w1, Below w.heap.size w w1 → Calls Tryz.prog 21 #[.agg #[vd, va, vc]] w1 fun e w' => ∃ v1 v2, e = .returned (.tuple #[.agg #[v1, v2], .bool qb]) ∧ Ints w' v1 m.1 ∧ Ints w' v2 m.2 ∧ Below w1.heap.size w1 w') := fun w1 hb => by
  rw [hqb, hmm]
  exact (hull_any x vd va vc w1 (hx.later hb) hs hsa).mono fun e w' ⟨v1, v2, he, k1, k2, hb⟩ => ⟨v1, v2, he, k1.ints, k2.ints, hb⟩
 have hqd : qb = decide (0 < x.cells.length) := by
  rw [hqb]
  by_cases h0 : 0 < x.cells.length
  ·obtain ⟨m', hm', -⟩ := hull_some h h0
   rw [hm', decide_eq_true h0]; rfl
  ·rw [hull_nil (.inr (by omega)), decide_eq_false h0]; rfl
 have HQM : Hid (qb = true → cutE x m.1 m.2 = 0 ∧ cutQ x m.1 m.2 = x) := fun hq => by
  rw [hqd, decide_eq_true_eq] at hq
  obtain ⟨m', hm', hr⟩ := hull_some h hq
  rw [hmm, hm']
  exact hr
 have HQD := Lib.hid hqd
 clear hqb hmm hqd
 have HX := Lib.hid hx
 have K12 := Lib.hid (And.intro h1 h2)
 have K34 := Lib.hid (And.intro h3 h4)
 have HS := Lib.hid (And.intro hs hsa)
 have H := Lib.hid h
 have HM := Lib.hid hm
 obtain ⟨p1, k1, rfl, -⟩ := hx.dims.shape
 obtain ⟨p2, k2, rfl, -⟩ := hx.attrs.shape
 obtain ⟨p3, k3, rfl, -⟩ := hx.cells.shape
 obtain ⟨p4, k4, rfl, -⟩ := h1.shape
 obtain ⟨p5, k5, rfl, -⟩ := h2.shape
 obtain ⟨p6, k6, rfl, -⟩ := h3.shape
 obtain ⟨p7, k7, rfl, -⟩ := h4.shape
 obtain ⟨W1, hW1, hb1, hbx⟩ := hul3_at w (.slice p1 x.dims.length k1) (.slice p2 x.attrs.length k2) (.slice p3 x.cells.length k3) (.slice p4 al.length k4) (.slice p5 ah.length k5) (.slice p6 bl.length k6) (.slice p7 bh.length k7)
 have HB1 := Lib.hid hb1
 have HBX : Hid (HulB w.heap.size W1 (.slice p1 x.dims.length k1) (.slice p2 x.attrs.length k2) (.slice p3 x.cells.length k3) (.slice p4 al.length k4) (.slice p5 ah.length k5) (.slice p6 bl.length k6) (.slice p7 bh.length k7)) := hbx
 obtain ⟨⟨z0, z1, z2⟩, ⟨z3, z4⟩, z5, z6⟩ := hbx W1 (Below.refl _ _)
 have s1 : decide ((10 : Int) < al.length) = false := decide_eq_false (by omega)
 have s2 : decide ((10 : Int) < ah.length) = false := decide_eq_false (by omega)
 have s3 : decide ((10 : Int) < bl.length) = false := decide_eq_false (by omega)
 have s4 : decide ((10 : Int) < bh.length) = false := decide_eq_false (by omega)
 clear hm hx h1 h2 h3 h4 hs hsa hl h hb1 hbx
 go_enter Tryz.func6, Tryz.ntmps6
 go_upto_region 1 with (fail)
 rw [← hW1]
 clear hW1
 go_wp2_with fail
 refine (CFW.out _ HB1.out).mono ?_
 rintro e w2 ⟨b, rfl, -, hb⟩
 have HB2 := Lib.hid (below_keep HB1.out hb)
 have HC2 := Lib.hid hb
 obtain ⟨⟨d0, d1, d2⟩, ⟨d3, d4⟩, d5, d6⟩ := HBX.out w2 hb
 clear hb z0 z1 z2 z3 z4 z5 z6
 cases b with
 | false =>
  go_wp2_with fail
  refine (CW.out _ HB2.out).mono ?_
  rintro e z1 ⟨rfl, hb⟩
  have HBE := Lib.hid (below_keep HB2.out hb)
  clear hb CW
  go_wp2
  go_ret
  exact ⟨rfl, HBE.out⟩
 | true =>
  go_wp2_with fail
  refine (C1.out _ HB2.out).mono ?_
  rintro e w3 ⟨rfl, hb⟩
  have HB3 := Lib.hid (below_keep HB2.out hb)
  have HC3 := Lib.hid (below_keep HC2.out hb)
  clear hb C1 d0 d1 d2 d3 d4 d5 d6
  obtain ⟨⟨d0, d1, d2⟩, -⟩ := HBX.out w3 HC3.out
  go_wp2_with fail
  refine (C2.out _ HB3.out).mono ?_
  rintro e w4 ⟨t1, t2, rfl, n1, n2, hb⟩
  obtain ⟨A4, hA4, hba, hxa⟩ := boxm_at' w4 t1 t2
  have N1 := Lib.hid (And.intro (n1.later IntR.lasts hba) (n2.later IntR.lasts hba))
  obtain ⟨q1, l1, rfl, -⟩ := n1.shape
  obtain ⟨q2, l2, rfl, -⟩ := n2.shape
  have HB4 := Lib.hid (below_keep HB3.out (below_keep hb hba))
  have HC4 := Lib.hid (below_keep HC3.out (below_keep hb hba))
  have KA := Lib.hid hxa
  clear hb hba hxa n1 n2 C2 d0 d1 d2
  go_upto_region 8 with (fail)
  rw [← hA4]
  clear hA4
  obtain ⟨⟨d0, d1, d2⟩, -⟩ := HBX.out A4 HC4.out
  obtain ⟨y0, y1⟩ := KA.out A4 (Below.refl _ _)
  let KF : (Ending → World → Prop) → Exit → Act → World → Prop := bodyPost Tryz.prog Tryz.f6
  go_cut [86] (fun a wx => a = .bool false ∧ wx = A4)
  case first =>
   have hqd := HQD.out
   cases qb with
   | false =>
    have h0 : ¬ 0 < x.cells.length := by simpa using hqd.symm
    have t8 : decide ((0 : Int) < (x.cells.length : Int)) = false := decide_eq_false (by omega)
    have t7 : decide (0 < x.cells.length) = false := decide_eq_false h0
    clear hqd h0
    go_wp2
    go_meet
    exact ⟨rfl, rfl⟩
   | true =>
    have h0 : 0 < x.cells.length := by simpa using hqd.symm
    have t8 : decide ((0 : Int) < (x.cells.length : Int)) = true := decide_eq_true (by omega)
    have t7 : decide (0 < x.cells.length) = true := decide_eq_true h0
    clear hqd h0
    go_wp2
    go_meet
    exact ⟨rfl, rfl⟩
  case rest =>
  obtain ⟨rfl, hwx⟩ := hcut
  rw [hwx]
  clear hwx
  go_upto_if 87 with (fail)
  go_cut [12] (fun a wx => a = .bool qb ∧ Below A4.heap.size A4 wx)
  case first =>
   cases qb with
   | false =>
    go_wp2
    go_meet
    exact ⟨rfl, Below.refl _ _⟩
   | true =>
    have hqm := HQM.out rfl
    have C3 := Lib.hid (cut_is x x 0 m.1 m.2 _ _ _ _ _ A4 (HX.out.later HB4.out) N1.out.1 N1.out.2 HS.out.1 HS.out.2 hqm.2 hqm.1)
    clear hqm
    go_wp2_with fail
    refine C3.out.mono ?_
    rintro e w5 ⟨t1, t2, t3, rfl, n3, hb⟩
    obtain ⟨A5, hA5, hba, hxa⟩ := arrc_at w5 t1 t2 t3
    have N3 := Lib.hid (n3.later hba)
    obtain ⟨q3, l3, rfl, -⟩ := n3.dims.shape
    obtain ⟨q4, l4, rfl, -⟩ := n3.attrs.shape
    obtain ⟨q5, l5, rfl, -⟩ := n3.cells.shape
    have D5 := Lib.hid (below_keep hb hba)
    have HB5 := Lib.hid (below_keep HB4.out D5.out)
    have HC5 := Lib.hid (below_keep HC4.out D5.out)
    have KB := Lib.hid hxa
    clear hb hba hxa n3 C3 d0 d1 d2 y0 y1
    go_upto_region 12 with (fail)
    rw [← hA5]
    clear hA5
    obtain ⟨⟨d0, d1, d2⟩, -⟩ := HBX.out A5 HC5.out
    obtain ⟨y0, y1, y2⟩ := KB.out A5 (Below.refl _ _)
    have C4 := Lib.hid (same_self x _ _ _ _ _ _ A5 (HX.out.later HB5.out) N3.out HS.out.1 HS.out.2 H.out)
    go_wp2_with fail
    refine C4.out.mono ?_
    rintro e w6 ⟨rfl, hb⟩
    have D6 := Lib.hid (below_keep D5.out hb)
    clear hb C4 d0 d1 d2 y0 y1 y2
    go_wp2
    go_meet
    exact ⟨rfl, D6.out⟩
  case rest =>
   obtain ⟨rfl, hbc⟩ := hcut
   have HCC := Lib.hid (below_keep HC4.out hbc)
   clear hbc d0 d1 d2 y0 y1 N1 KA HB4 HC4 HB3 HC3 HQM
   obtain ⟨Wa, hWa⟩ : ∃ Wa, Wa = wc := ⟨_, rfl⟩
   rw [← hWa] at HCC ⊢
   clear hWa
   have HLL := Lib.hid (Ls.len HX.out.cells)
   go_upto_block 0 with (fail)
   go_cut [15] (fun a wx => ∃ i : Nat, a = .int .i64 (i : Nat) ∧ Below W1.heap.size W1 wx)
   case first =>
    go_wp2
    go_loopw [15] (fun iv wr => ∃ i : Nat, i ≤ x.cells.length ∧ iv = .int .i64 (i : Nat) ∧ Below W1.heap.size W1 wr) (fun iv _ => x.cells.length - (intOf iv).toNat)
    case atStart => exact ⟨0, Nat.zero_le _, rfl, HCC.out⟩
    case round =>
     obtain ⟨i, hi, rfl, hbw⟩ := hrel
     have ZW := Lib.hid hbw
     have HWW := Lib.hid (below_keep HB1.out hbw)
     have hHl := HLL.out
     obtain ⟨⟨d0, d1, d2⟩, -⟩ := HBX.out wr hbw
     clear hbw
     by_cases hlt : i < x.cells.length
     ·obtain ⟨gc, oc, c, ea, hcx, hr⟩ := (HX.out.later HWW.out).cells.at i hlt
      subst ea
      obtain ⟨vc1, vc2, x0, x1, hco, hva⟩ := hr.ex
      have hcm : c ∈ x.cells := List.mem_of_getElem? hcx
      obtain ⟨hce, hcq⟩ := cut_one H.out hcm
      have CC := Lib.hid (fun w9 (hb : Below wr.heap.size wr w9) => cut_c1 x c _ _ _ _ w9 (HX.out.later (below_keep HWW.out hb)) (hco.later IntR.lasts hb) HS.out.1 HS.out.2 H.out hce hcq)
      have HCO := Lib.hid hco
      obtain ⟨pc, kc, rfl, -⟩ := hco.shape
      have KX := Lib.hid (fun w' (hb : Below wr.heap.size wr w') => And.intro (cell_later d0 hb) (And.intro (cell_later d1 hb) (And.intro (cell_later d2 hb) (cell_later x0 hb))))
      have ib0 : (0 : Int) ≤ (i : Int) := by omega
      have ib1 : (i : Int) < (x.cells.length : Int) := by omega
      clear hcx hr hcm hce hcq hco hva
      go_upto_region 17 with (fail)
      go_cut [16, 17] (fun a b wx => ∃ g9 p9 k9, a = .pointer (some ⟨g9, 0, none⟩) ∧ b = .int .i64 0 ∧ wx.cell? ⟨g9, 2, none⟩ = some (.slice p9 1 k9) ∧ CellsA wx (.slice p9 1 k9) [c] ∧ Below wr.heap.size wr wx)
      case first =>
       refine wp_region_inv [some 110, some 111, some 112, some 113, some 114, some 115, some 116, some 117, some 118, some 119, some 120, some 121, some 122, some 123, some 124, some 109, some 125, some 126, some 16, none, some 17] (CvJ [some (.agg #[.slice p1 x.dims.length k1, .slice p2 x.attrs.length k2, .slice (some ⟨gc, oc, none⟩) x.cells.length k3]), some (.pointer (some ⟨w.heap.size, 2, none⟩)), some (.slice (some ⟨gc, oc, none⟩) x.cells.length k3), some (.int .i64 (i : Nat)), some (.pointer (some ⟨gc, oc + i * 2, none⟩)), some (.pointer (some ⟨gc, oc + i * 2, none⟩)), some (.slice pc c.co.length kc), some (.pointer (some ⟨w.heap.size, 2, none⟩)), some (.slice (some ⟨gc, oc, none⟩) x.cells.length k3), some (.int .i64 (i : Nat)), some (.pointer (some ⟨gc, oc + i * 2, none⟩)), some (.pointer (some ⟨gc, oc + i * 2, none⟩)), some (.slice pc c.co.length kc), some (.agg #[.slice pc c.co.length kc, .slice pc c.co.length kc]), none, none, none, some (.int .i64 0), none, none, some (.int .i64 0)] 14 15 16 18 19 wr c) rfl (by kernel_rfl) (by kernel_rfl) (by kernel_rfl) (by kernel_rfl) ?_ ?_ ?_
       ·exact CvJ.start (Below.refl _ _).drew
       ·intro i9 op9 ho
        have hi9 : i9 < 21 := (Array.getElem?_eq_some_iff.1 ho).1
        match i9, hi9 with
        | 0, _ =>
         obtain rfl := Option.some.inj ho
         intro a9 dn vals wx hJ0 hdi hde hdj hev hsl hun
         have hJ := Lib.hid hJ0
         rw [if_pos (wanted_none rfl)]
         have f3 : (a9.tmps[3]?).getD undef = .pointer (some ⟨w.heap.size, 0, none⟩) := hev 3 (by kernel_rfl)
         obtain ⟨y0, y1, y2, y3⟩ := KX.out wx hJ.out.below
         clear hde hdj hev hsl hun hJ0 hdi
         go_simp
         exact hJ.out.stay (i := 0) (by decide) (by decide) (by decide) (by decide) (by decide) (.inl rfl)
        | 1, _ =>
         obtain rfl := Option.some.inj ho
         intro a9 dn vals wx hJ0 hdi hde hdj hev hsl hun
         have hJ := Lib.hid hJ0
         rw [if_pos (wanted_none rfl)]
         have f3 : (a9.tmps[3]?).getD undef = .pointer (some ⟨w.heap.size, 0, none⟩) := hev 3 (by kernel_rfl)
         clear hde hdj hev hsl hun hJ0 hdi
         go_simp
         exact hJ.out.stay (i := 1) (by decide) (by decide) (by decide) (by decide) (by decide) (.inl rfl)
        | 2, _ =>
         obtain rfl := Option.some.inj ho
         intro a9 dn vals wx hJ0 hdi hde hdj hev hsl hun
         have hJ := Lib.hid hJ0
         rw [if_pos (wanted_none rfl)]
         have f111 : (a9.tmps[111]?).getD undef = .pointer (some ⟨w.heap.size, 2, none⟩) := (hsl 1 111 (hde 0 _ rfl rfl) rfl).trans (hJ.out.fv 1 _ rfl (hde 0 _ rfl rfl))
         obtain ⟨y0, y1, y2, y3⟩ := KX.out wx hJ.out.below
         clear hde hdj hev hsl hun hJ0 hdi
         go_simp
         exact hJ.out.stay (i := 2) (by decide) (by decide) (by decide) (by decide) (by decide) (.inl rfl)
        | 3, _ =>
         obtain rfl := Option.some.inj ho
         intro a9 dn vals wx hJ0 hdi hde hdj hev hsl hun
         have hJ := Lib.hid hJ0
         rw [if_pos (wanted_none rfl)]
         have f15 : (a9.tmps[15]?).getD undef = .int .i64 (i : Nat) := hev 15 (by kernel_rfl)
         clear hde hdj hev hsl hun hJ0 hdi
         go_simp
         exact hJ.out.stay (i := 3) (by decide) (by decide) (by decide) (by decide) (by decide) (.inl rfl)
        | 4, _ =>
         obtain rfl := Option.some.inj ho
         intro a9 dn vals wx hJ0 hdi hde hdj hev hsl hun
         have hJ := Lib.hid hJ0
         rw [if_pos (wanted_none rfl)]
         have f112 : (a9.tmps[112]?).getD undef = .slice (some ⟨gc, oc, none⟩) x.cells.length k3 := (hsl 2 112 (hde 0 _ rfl rfl) rfl).trans (hJ.out.fv 2 _ rfl (hde 0 _ rfl rfl))
         have f113 : (a9.tmps[113]?).getD undef = .int .i64 (i : Nat) := (hsl 3 113 (hde 1 _ rfl rfl) rfl).trans (hJ.out.fv 3 _ rfl (hde 1 _ rfl rfl))
         clear hde hdj hev hsl hun hJ0 hdi
         go_simp
         exact hJ.out.stay (i := 4) (by decide) (by decide) (by decide) (by decide) (by decide) (.inl rfl)
        | 5, _ =>
         obtain rfl := Option.some.inj ho
         intro a9 dn vals wx hJ0 hdi hde hdj hev hsl hun
         have hJ := Lib.hid hJ0
         rw [if_pos (wanted_none rfl)]
         have f114 : (a9.tmps[114]?).getD undef = .pointer (some ⟨gc, oc + i * 2, none⟩) := (hsl 4 114 (hde 0 _ rfl rfl) rfl).trans (hJ.out.fv 4 _ rfl (hde 0 _ rfl rfl))
         clear hde hdj hev hsl hun hJ0 hdi
         go_simp
         exact hJ.out.stay (i := 5) (by decide) (by decide) (by decide) (by decide) (by decide) (.inl rfl)
        | 6, _ =>
         obtain rfl := Option.some.inj ho
         intro a9 dn vals wx hJ0 hdi hde hdj hev hsl hun
         have hJ := Lib.hid hJ0
         rw [if_pos (wanted_none rfl)]
         have f115 : (a9.tmps[115]?).getD undef = .pointer (some ⟨gc, oc + i * 2, none⟩) := (hsl 5 115 (hde 0 _ rfl rfl) rfl).trans (hJ.out.fv 5 _ rfl (hde 0 _ rfl rfl))
         obtain ⟨y0, y1, y2, y3⟩ := KX.out wx hJ.out.below
         clear hde hdj hev hsl hun hJ0 hdi
         go_simp
         exact hJ.out.stay (i := 6) (by decide) (by decide) (by decide) (by decide) (by decide) (.inl rfl)
        | 7, _ =>
         obtain rfl := Option.some.inj ho
         intro a9 dn vals wx hJ0 hdi hde hdj hev hsl hun
         have hJ := Lib.hid hJ0
         rw [if_pos (wanted_none rfl)]
         have f3 : (a9.tmps[3]?).getD undef = .pointer (some ⟨w.heap.size, 0, none⟩) := hev 3 (by kernel_rfl)
         clear hde hdj hev hsl hun hJ0 hdi
         go_simp
         exact hJ.out.stay (i := 7) (by decide) (by decide) (by decide) (by decide) (by decide) (.inl rfl)
        | 8, _ =>
         obtain rfl := Option.some.inj ho
         intro a9 dn vals wx hJ0 hdi hde hdj hev hsl hun
         have hJ := Lib.hid hJ0
         rw [if_pos (wanted_none rfl)]
         have f117 : (a9.tmps[117]?).getD undef = .pointer (some ⟨w.heap.size, 2, none⟩) := (hsl 7 117 (hde 0 _ rfl rfl) rfl).trans (hJ.out.fv 7 _ rfl (hde 0 _ rfl rfl))
         obtain ⟨y0, y1, y2, y3⟩ := KX.out wx hJ.out.below
         clear hde hdj hev hsl hun hJ0 hdi
         go_simp
         exact hJ.out.stay (i := 8) (by decide) (by decide) (by decide) (by decide) (by decide) (.inl rfl)
        | 9, _ =>
         obtain rfl := Option.some.inj ho
         intro a9 dn vals wx hJ0 hdi hde hdj hev hsl hun
         have hJ := Lib.hid hJ0
         rw [if_pos (wanted_none rfl)]
         have f15 : (a9.tmps[15]?).getD undef = .int .i64 (i : Nat) := hev 15 (by kernel_rfl)
         clear hde hdj hev hsl hun hJ0 hdi
         go_simp
         exact hJ.out.stay (i := 9) (by decide) (by decide) (by decide) (by decide) (by decide) (.inl rfl)
        | 10, _ =>
         obtain rfl := Option.some.inj ho
         intro a9 dn vals wx hJ0 hdi hde hdj hev hsl hun
         have hJ := Lib.hid hJ0
         rw [if_pos (wanted_none rfl)]
         have f118 : (a9.tmps[118]?).getD undef = .slice (some ⟨gc, oc, none⟩) x.cells.length k3 := (hsl 8 118 (hde 0 _ rfl rfl) rfl).trans (hJ.out.fv 8 _ rfl (hde 0 _ rfl rfl))
         have f119 : (a9.tmps[119]?).getD undef = .int .i64 (i : Nat) := (hsl 9 119 (hde 1 _ rfl rfl) rfl).trans (hJ.out.fv 9 _ rfl (hde 1 _ rfl rfl))
         clear hde hdj hev hsl hun hJ0 hdi
         go_simp
         exact hJ.out.stay (i := 10) (by decide) (by decide) (by decide) (by decide) (by decide) (.inl rfl)
        | 11, _ =>
         obtain rfl := Option.some.inj ho
         intro a9 dn vals wx hJ0 hdi hde hdj hev hsl hun
         have hJ := Lib.hid hJ0
         rw [if_pos (wanted_none rfl)]
         have f120 : (a9.tmps[120]?).getD undef = .pointer (some ⟨gc, oc + i * 2, none⟩) := (hsl 10 120 (hde 0 _ rfl rfl) rfl).trans (hJ.out.fv 10 _ rfl (hde 0 _ rfl rfl))
         clear hde hdj hev hsl hun hJ0 hdi
         go_simp
         exact hJ.out.stay (i := 11) (by decide) (by decide) (by decide) (by decide) (by decide) (.inl rfl)
        | 12, _ =>
         obtain rfl := Option.some.inj ho
         intro a9 dn vals wx hJ0 hdi hde hdj hev hsl hun
         have hJ := Lib.hid hJ0
         rw [if_pos (wanted_none rfl)]
         have f121 : (a9.tmps[121]?).getD undef = .pointer (some ⟨gc, oc + i * 2, none⟩) := (hsl 11 121 (hde 0 _ rfl rfl) rfl).trans (hJ.out.fv 11 _ rfl (hde 0 _ rfl rfl))
         obtain ⟨y0, y1, y2, y3⟩ := KX.out wx hJ.out.below
         clear hde hdj hev hsl hun hJ0 hdi
         go_simp
         exact hJ.out.stay (i := 12) (by decide) (by decide) (by decide) (by decide) (by decide) (.inl rfl)
        | 13, _ =>
         obtain rfl := Option.some.inj ho
         intro a9 dn vals wx hJ0 hdi hde hdj hev hsl hun
         have hJ := Lib.hid hJ0
         rw [if_pos (wanted_none rfl)]
         have f116 : (a9.tmps[116]?).getD undef = .slice pc c.co.length kc := (hsl 6 116 (hde 0 _ rfl rfl) rfl).trans (hJ.out.fv 6 _ rfl (hde 0 _ rfl rfl))
         have f122 : (a9.tmps[122]?).getD undef = .slice pc c.co.length kc := (hsl 12 122 (hde 1 _ rfl rfl) rfl).trans (hJ.out.fv 12 _ rfl (hde 1 _ rfl rfl))
         clear hde hdj hev hsl hun hJ0 hdi
         go_simp
         exact hJ.out.stay (i := 13) (by decide) (by decide) (by decide) (by decide) (by decide) (.inl rfl)
        | 14, _ =>
         obtain rfl := Option.some.inj ho
         intro a9 dn vals wx hJ0 hdi hde hdj hev hsl hun
         have hJ := Lib.hid hJ0
         rw [if_pos (wanted_none rfl)]
         have f110 : (a9.tmps[110]?).getD undef = .agg #[.slice p1 x.dims.length k1, .slice p2 x.attrs.length k2, .slice (some ⟨gc, oc, none⟩) x.cells.length k3] := (hsl 0 110 (hde 0 _ rfl rfl) rfl).trans (hJ.out.fv 0 _ rfl (hde 0 _ rfl rfl))
         have f123 : (a9.tmps[123]?).getD undef = .agg #[.slice pc c.co.length kc, .slice pc c.co.length kc] := (hsl 13 123 (hde 1 _ rfl rfl) rfl).trans (hJ.out.fv 13 _ rfl (hde 1 _ rfl rfl))
         have n15 : Hid (dn 15 = false) := hdj 15 0 _ _ rfl rfl rfl rfl
         have n19 : Hid (dn 19 = false) := hdj 19 2 _ _ rfl rfl rfl rfl
         clear hde hdj hev hsl hun hJ0 hdi
         go_simp
         exact (CC.out wx hJ.out.below).mono fun e w9 ⟨p1, n1, c1, p2, n2, c2, p3, c3, he, k1, k2⟩ => ⟨_, he, hJ.out.call (by decide) (by decide) (by decide) (by decide) n15.out n19.out rfl k2 ⟨p1, n1, c1, p2, n2, c2, p3, c3, rfl, fun _ => k1.base hJ.out.below.size⟩⟩
        | 15, _ =>
         obtain rfl := Option.some.inj ho
         intro a9 dn vals wx hJ0 hdi hde hdj hev hsl hun
         have hJ := Lib.hid hJ0
         rw [if_pos (wanted_none rfl)]
         have f124 : (a9.tmps[124]?).getD undef = vals 14 := hsl 14 124 (hde 0 _ rfl rfl) rfl
         have d14 : Hid (dn 14 = true) := hde 0 _ rfl rfl
         obtain ⟨p1, n1, c1, p2, n2, c2, p3, c3, ec, -⟩ := hJ.out.fC d14.out
         rw [ec] at f124
         have HF := Lib.hid (fun (v : Value) (he : v = vals 14) => hJ.out.move (by decide) (by decide) (by decide) (by decide) d14.out rfl he)
         rw [ec] at HF
         clear hde hdj hev hsl hun hJ0 hdi
         clear ec
         go_simp
         exact HF.out _ rfl
        | 16, _ =>
         obtain rfl := Option.some.inj ho
         intro a9 dn vals wx hJ0 hdi hde hdj hev hsl hun
         have hJ := Lib.hid hJ0
         rw [if_pos (wanted_none rfl)]
         have f109 : (a9.tmps[109]?).getD undef = vals 15 := hsl 15 109 (hde 0 _ rfl rfl) rfl
         have d15 : Hid (dn 15 = true) := hde 0 _ rfl rfl
         obtain ⟨p1, n1, c1, p2, n2, c2, p3, c3, ec, kc⟩ := hJ.out.fM d15.out
         rw [ec] at f109
         have HF := Lib.hid (hJ.out.ext (by decide) (by decide) (by decide) (by decide) rfl ⟨p1, n1, c1, p2, n2, c2, p3, c3, rfl, kc⟩)
         clear hde hdj hev hsl hun hJ0 hdi
         clear ec kc
         go_simp
         exact HF.out
        | 17, _ =>
         obtain rfl := Option.some.inj ho
         intro a9 dn vals wx hJ0 hdi hde hdj hev hsl hun
         have hJ := Lib.hid hJ0
         rw [if_pos (wanted_none rfl)]
         have f109 : (a9.tmps[109]?).getD undef = vals 15 := hsl 15 109 (hde 0 _ rfl rfl) rfl
         have d15 : Hid (dn 15 = true) := hde 0 _ rfl rfl
         obtain ⟨p1, n1, c1, p2, n2, c2, p3, c3, ec, kc⟩ := hJ.out.fM d15.out
         rw [ec] at f109
         clear hde hdj hev hsl hun hJ0 hdi
         clear ec kc
         go_simp
         exact hJ.out.stay (i := 17) (by decide) (by decide) (by decide) (by decide) (by decide) (.inl rfl)
        | 18, _ =>
         obtain rfl := Option.some.inj ho
         intro a9 dn vals wx hJ0 hdi hde hdj hev hsl hun
         have hJ := Lib.hid hJ0
         rw [if_pos (wanted_none rfl)]
         have n19 : Hid (dn 19 = false) := hdj 19 0 _ _ rfl rfl rfl rfl
         clear hde hdj hev hsl hun hJ0 hdi
         go_simp
         exact hJ.out.alloc (by decide) (by decide) (by decide) (by decide) n19.out rfl
        | 19, _ =>
         obtain rfl := Option.some.inj ho
         intro a9 dn vals wx hJ0 hdi hde hdj hev hsl hun
         have hJ := Lib.hid hJ0
         rw [if_pos (wanted_none rfl)]
         have f16 : (a9.tmps[16]?).getD undef = vals 18 := hsl 18 16 (hde 0 _ rfl rfl) rfl
         have f125 : (a9.tmps[125]?).getD undef = vals 16 := hsl 16 125 (hde 1 _ rfl rfl) rfl
         have d18 : Hid (dn 18 = true) := hde 0 _ rfl rfl
         have d16 : Hid (dn 16 = true) := hde 1 _ rfl rfl
         obtain ⟨b9, eb, hr, hn⟩ := hJ.out.fA d18.out hdi
         obtain ⟨p1, n1, c1, p2, n2, c2, p3, c3, e1, k1⟩ := hJ.out.f1 d16.out
         rw [eb] at f16
         rw [e1] at f125
         have HF := Lib.hid (fun (v v1 v2 : Value) => hJ.out.store (v := v) (v1 := v1) (v2 := v2) (by decide) (by decide) (by decide) (by decide) rfl eb hr hn (k1 hdi))
         obtain ⟨q0, q1, q2, q3, q4, q5, -⟩ := hr
         clear hde hdj hev hsl hun hJ0 hdi
         clear e1 k1 eb hn
         go_simp
         exact HF.out _ _ _
        | 20, _ =>
         obtain rfl := Option.some.inj ho
         intro a9 dn vals wx hJ0 hdi hde hdj hev hsl hun
         have hJ := Lib.hid hJ0
         rw [if_pos (wanted_none rfl)]
         have f126 : (a9.tmps[126]?).getD undef = .int .i64 0 := (hsl 17 126 (hde 0 _ rfl rfl) rfl).trans (hJ.out.fv 17 _ rfl (hde 0 _ rfl rfl))
         clear hde hdj hev hsl hun hJ0 hdi
         go_simp
         exact hJ.out.stay (i := 20) (by decide) (by decide) (by decide) (by decide) (by decide) (.inl rfl)
       ·intro dn vals wx hall hJ
        obtain ⟨g9, p9, k9, g18, e2, e3⟩ := hJ.fS (hall 19 (by decide))
        have g0 := hJ.fv 0 _ rfl (hall 0 (by decide))
        have g1 := hJ.fv 1 _ rfl (hall 1 (by decide))
        have g2 := hJ.fv 2 _ rfl (hall 2 (by decide))
        have g3 := hJ.fv 3 _ rfl (hall 3 (by decide))
        have g4 := hJ.fv 4 _ rfl (hall 4 (by decide))
        have g5 := hJ.fv 5 _ rfl (hall 5 (by decide))
        have g6 := hJ.fv 6 _ rfl (hall 6 (by decide))
        have g7 := hJ.fv 7 _ rfl (hall 7 (by decide))
        have g8 := hJ.fv 8 _ rfl (hall 8 (by decide))
        have g9 := hJ.fv 9 _ rfl (hall 9 (by decide))
        have g10 := hJ.fv 10 _ rfl (hall 10 (by decide))
        have g11 := hJ.fv 11 _ rfl (hall 11 (by decide))
        have g12 := hJ.fv 12 _ rfl (hall 12 (by decide))
        have g13 := hJ.fv 13 _ rfl (hall 13 (by decide))
        have g17 := hJ.fv 17 _ rfl (hall 17 (by decide))
        have g20 := hJ.fv 20 _ rfl (hall 20 (by decide))
        obtain ⟨y14, g14⟩ : ∃ y, vals 14 = y := ⟨_, rfl⟩
        obtain ⟨y15, g15⟩ : ∃ y, vals 15 = y := ⟨_, rfl⟩
        obtain ⟨y16, g16⟩ : ∃ y, vals 16 = y := ⟨_, rfl⟩
        have HF := Lib.hid (And.intro e2 (And.intro e3 hJ.below))
        simp only [putDs, Act.put, Nat.zero_add, Nat.reduceAdd, List.setIfInBounds_toArray, List.set_cons_succ, List.set_cons_zero, g0, g1, g2, g3, g4, g5, g6, g7, g8, g9, g10, g11, g12, g13, g14, g15, g16, g17, g18, g20]
        clear g0 g1 g2 g3 g4 g5 g6 g7 g8 g9 g10 g11 g12 g13 g14 g15 g16 g17 g18 g20 e2 e3 hJ hall
        go_wp2
        go_meet
        obtain ⟨e2, e3, e4⟩ := HF.out
        exact ⟨_, _, _, rfl, rfl, e2, e3, e4⟩
      case rest =>
       obtain ⟨g9, p9, k9, rfl, rfl, e2, e3, hbc⟩ := hcut
       have HZC := Lib.hid (below_keep ZW.out hbc)
       obtain ⟨gy, oy, cy, ey, hcy, hry⟩ := e3.at 0 (by simp)
       simp only [List.getElem?_cons_zero, Option.some.injEq] at hcy
       subst ey hcy
       obtain ⟨vy1, vy2, f0, f1, hyo, -⟩ := hry.ex
       rw [Nat.zero_mul, Nat.add_zero] at f0
       have CE := Lib.hid (fun nq => lequal_any c.co c.co vy1 _ (wc.drewN nq) (hyo.later IntR.lasts (below_drewN' _ _)) ((HCO.out.later IntR.lasts hbc).later IntR.lasts (below_drewN' _ _)))
       obtain ⟨py, ky, rfl, -⟩ := hyo.shape
       obtain ⟨-, -, d2', x0'⟩ := KX.out wc hbc
       simp only [decide_true] at CE
       clear e3 hry f1 hyo hbc d0 d1 d2 x0
       go_wp2_with fail
       go_quiet ((go_at_call 9; exact Calls.quiet_of (CE.out _)))
       have HB6 := Lib.hid (below_keep HZC.out (below_drewN' wc nq))
       clear e2 f0 d2' x0'
       go_wp2
       exact ⟨⟨i + 1, by omega, by go_num, HB6.out⟩, by show _ - _ < _ - _; simp [intOf]; omega⟩
     ·obtain rfl : i = x.cells.length := by omega
      go_wp2
      go_meet
      exact ⟨x.cells.length, rfl, ZW.out⟩
   case rest =>
    obtain ⟨i, rfl, hbc⟩ := hcut
    apply_assumption
    exact hullTail x al ah bl bh _ _ _ _ _ _ _ w.heap.size w W1 _ HM.out HX.out K12.out.1 K12.out.2 K34.out.1 K34.out.2 HS.out.1 HS.out.2 H.out HB1.out HBX.out hbc _ _ _ _ _ _ _ _ _ _ _ _ _ _ _ _ _ _ _ _ _ _ _ _ _ _ _ _ _ _ _ _ _ _ _ _ _ _ _ _ _ _ _ _ _ _ _ _ _ _ _ _ _ _ _ _ _ _ _ _ _ _ _ _ _ _ _ _ _ _ _ _ _ _ _ _ _ _ _ _ _ _ _ _ _ _ _ _ _ _ _ _ _ _ _ _ _ _ _ _ _ _ _ _ _ _ _ _ _ _ _ _ _ _ _ _ _ _ _ _ _ _ _ _ _ _ _ _ _ _ _ _ _ _ _ _ _ _ _ _ _ _ _ _ _ _ _ _ _ _ _ _ _ _ _ _ _ _ _ _ _ _ _ _ _ _ _ _ _ _ _ _ _ _ _ _ _ _ _ _ _ _ _ _ _ _ _ _ _ _ _ _ _ _ _ _ _ _ _ _ _ _ _ _
end Go.Proofs.YtkliekoheeeamaaGreatDoor
/- SpaceHull: the whole. -/
namespace Go.Proofs.YtkliekoheeeamaaGreatDoor
open Go.RowKit

theorem spaceHull_any (x : ArrT) (al ah bl bh : List Int) (vd va vc u1 u2 u3 u4 : Value) (w : World) (hm : Ml w) (hx : ArrR w vd va vc x) (h1 : Ints w u1 al) (h2 : Ints w u2 ah) (h3 : Ints w u3 bl) (h4 : Ints w u4 bh) (hs : StrD x.dims) (hsa : StrA x.attrs) :
  Calls Tryz.prog 6 #[.agg #[vd, va, vc], .agg #[u1, u2], .agg #[u3, u4]] w (RetV' (.bool true) w) := by
 by_cases hl : al.length ≤ 10 ∧ ah.length ≤ 10 ∧ bl.length ≤ 10 ∧ bh.length ≤ 10
 ·by_cases h : checkE x = 0
  ·exact hull_goodx x al ah bl bh vd va vc u1 u2 u3 u4 w hm hx h1 h2 h3 h4 hs hsa hl h
  ·exact hull_badx x al ah bl bh vd va vc u1 u2 u3 u4 w hm hx h1 h2 h3 h4 hs hsa hl h
 ·exact hull_skip x al ah bl bh vd va vc u1 u2 u3 u4 w hm hx h1 h2 h3 h4 (by omega)
end Go.Proofs.YtkliekoheeeamaaGreatDoor
