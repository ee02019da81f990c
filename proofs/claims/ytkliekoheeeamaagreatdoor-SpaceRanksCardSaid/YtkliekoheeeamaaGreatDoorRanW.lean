/- The walk of SpaceRanks. (printed by ranw.py) -/
import Derived.BigQuiet
import Derived.IntWalk
import Derived.Deep.RegionHeld3
import Derived.Deep.DeepCutAuto
import Derived.Deep.CutBlock
import Derived.Test.YtkliekoheeeamaaGreatDoorS15
import Derived.Test.YtkliekoheeeamaaGreatDoorS27
import Derived.Test.YtkliekoheeeamaaGreatDoorS52
namespace Go.Proofs.YtkliekoheeeamaaGreatDoor
open Go.RowKit

set_option maxHeartbeats 32000000 in
set_option maxRecDepth 100000 in
theorem spaceRanks_any (l : LayT) (x : CubT) (vs vo v : Value) (w : World) (hm : Ml w) (hl : LayR w vs vo l) (hx : I8s w v x.lo) (hg : CubG x) :
  Calls Tryz.prog 5 #[layV vs vo l, cubV v x] w (RetV' (.bool true) w) := by
 have CW := Lib.hid (fun w1 (hb : Below w.heap.size w w1) => works_any w1 (hm.later hb))
 have CB := Lib.hid (fun w1 (hb : Below w.heap.size w w1) => cubeBox_any x v w1 (hx.later I8R.lasts hb) hg)
 have CLL := Lib.hid (fun w1 (hb : Below w.heap.size w w1) => llayout_any vs vo l w1 (hl.later hb))
 have HSM := Lib.hid (cube_small hg)
 have HL := Lib.hid hl
 obtain ⟨lo, hlo⟩ : ∃ lo, lo = cbL x 4 := ⟨_, rfl⟩
 obtain ⟨hi, hhi⟩ : ∃ hi, hi = cbH x 4 := ⟨_, rfl⟩
 rw [← hlo, ← hhi] at HSM CB
 obtain ⟨p1, k1, rfl, -⟩ := hl.sides.shape
 obtain ⟨p2, k2, rfl, -⟩ := hl.over.shape
 obtain ⟨p0, k0, rfl, -⟩ := hx.shape
 clear hm hl hx hg hlo hhi
 obtain ⟨W0, hW0⟩ : ∃ W0, W0 = w.alloc (.cells #[.slice p1 l.sides.length k1, .slice p2 l.over.length k2, .int .i64 l.order, .int .i64 l.tile, .int .i64 l.form, .int .i64 l.codec] 32) := ⟨_, rfl⟩
 have hsz0 : W0.heap.size = w.heap.size + 1 := by rw [hW0]; simp
 have HLB := Lib.hid (fun w' hb => LayB.made w (.slice p1 l.sides.length k1) (.slice p2 l.over.length k2) l 32 w' hb)
 have hb0 : Below w.heap.size w W0 := by rw [hW0]; exact below_alloc _ _
 rw [← hW0] at HLB
 obtain ⟨W1, hW1, hb1, hsz1, -, -⟩ := cube_at W0 (.slice p0 x.lo.length k0) x
 have HB1 := Lib.hid (below_keep hb0 hb1)
 have HLB1 : Hid (∀ w', Below W1.heap.size W1 w' → LayB w' w.heap.size (.slice p1 l.sides.length k1) (.slice p2 l.over.length k2) l) := fun w' hb => HLB.out w' (by
  have h9 := below_keep hb1 hb
  rw [hsz0] at h9
  exact h9)
 clear hb0 hb1 hsz0 hsz1 HLB
 obtain ⟨ss, oo, o, t, f, c'⟩ := l
 obtain ⟨xl, s0, s1, s2, s3⟩ := x
 simp only at hW0 hW1 HLB1 CB
 go_enter Tryz.func5, Tryz.ntmps5
 let KF : (Ending → World → Prop) → Exit → Act → World → Prop := bodyPost Tryz.prog Tryz.f5
 go_wp2_with fail
 rw [← hW0]
 rw [← hW1]
 clear hW0 hW1
 refine (CB.out _ HB1.out).mono ?_
 rintro e w2 ⟨v1, v2, rfl, h1, h2, hb⟩
 have HB12 := Lib.hid hb
 obtain ⟨W3, hW3, hb3, hbx⟩ := box_at w2 v1 v2
 have HB13 := Lib.hid (below_keep hb hb3)
 have HB3 := Lib.hid (below_keep HB1.out HB13.out)
 have H1 := Lib.hid (h1.ints.later IntR.lasts hb3)
 have H2 := Lib.hid (h2.ints.later IntR.lasts hb3)
 have HBX := Lib.hid hbx
 obtain ⟨q1, j1, rfl, -⟩ := h1.ints.shape
 obtain ⟨q2, j2, rfl, -⟩ := h2.ints.shape
 rw [← HSM.out.len] at HBX H2 hW3
 clear hb hb3 h1 h2 hbx CB
 simp only [← HSM.out.len]
 go_upto_block 0 with (fail)
 rw [← hW3]
 clear hW3
 obtain ⟨N, hN⟩ : ∃ N, N = ptsN lo hi := ⟨_, rfl⟩
 have HN := Lib.hid hN
 have hN6 : N ≤ 6561 := by rw [hN, ← prdN_all HSM.out.len]; exact prdN_small HSM.out (Nat.le_refl _)
 have HN6 := Lib.hid hN6
 clear hN hN6
 go_cut [6] (fun a wx => a = .int .i64 (N : Nat) ∧ Below W3.heap.size W3 wx)
 case first =>
  clear CW CLL
  go_wp2
  go_loopw [6, 7] (fun nv iv wr => ∃ (i P : Nat), i ≤ lo.length ∧ nv = .int .i64 (P : Nat) ∧ Hid (P = prdN lo hi i) ∧ iv = .int .i64 (i : Nat) ∧ Below W3.heap.size W3 wr) (fun _ iv _ => lo.length - (intOf iv).toNat)
  case atStart => exact ⟨0, 1, Nat.zero_le _, rfl, rfl, rfl, Below.refl _ _⟩
  case round =>
   obtain ⟨i, P, hi', rfl, HP, rfl, hb⟩ := hrel
   have HBR := Lib.hid hb
   obtain ⟨e0, e1, -⟩ := HBX.out wr hb
   by_cases hlt : i < lo.length
   ·obtain ⟨g1, o1, a, ea, ha, hra⟩ := H1.out.at i hlt
    obtain ⟨g2, o2, b, eb, hbb, hrb⟩ := H2.out.at i (by rw [← HSM.out.len]; exact hlt)
    subst ea eb
    have hra := cell_later hra hb
    have hrb := cell_later hrb hb
    rw [Nat.mul_one] at hra hrb
    have he := HSM.out.each i a b ha hbb
    have hs := prdN_snoc ha hbb HSM.out.len he.1
    have h6 := prdN_small HSM.out (i := i + 1) hlt
    obtain ⟨P', hP'⟩ : ∃ P', P' = prdN lo hi (i + 1) := ⟨_, rfl⟩
    rw [← hP', ← HP.out] at hs
    rw [← hP'] at h6
    have HP' := Lib.hid hP'
    have w1 : IntKind.i64.wrap (b - a) = b - a := IntWalk.i64_in _ (by omega)
    have w2' : IntKind.i64.wrap (b - a + 1) = b - a + 1 := IntWalk.i64_in _ (by omega)
    have w3 : IntKind.i64.wrap ((P : Int) * (b - a + 1)) = (P' : Int) := by rw [← hs]; exact IntWalk.i64_in _ (by omega)
    have ib0 : (0 : Int) ≤ (i : Int) := by omega
    have ib1 : (i : Int) < (lo.length : Int) := by omega
    have ib4 : (lo.length : Int) ≤ 4 := by have := HSM.out.l4; omega
    have HI1 : Hid (i + 1 ≤ lo.length ∧ lo.length - (i + 1) < lo.length - i) := by show _ ∧ _; omega
    clear ha hbb he hs h6 hP' hb hlt hi'
    go_wp2_with fail
    go_quiet (fail)
    have HB2 := Lib.hid (below_keep HBR.out (below_drewN' wr nq))
    go_wp2
    exact ⟨⟨i + 1, P', HI1.out.1, rfl, HP'.out, by go_num, HB2.out⟩, HI1.out.2⟩
   ·have hin : i = lo.length := by omega
    have hPN : P = N := by rw [HP.out, HN.out, hin, prdN_all HSM.out.len]
    have hni : ¬ (i : Int) < (lo.length : Int) := by omega
    clear HP hb hlt hi' hin
    subst hPN
    go_wp2
    go_meet
    exact ⟨rfl, HBR.out⟩
 case rest =>
 obtain ⟨rfl, hbc⟩ := hcut
 have HBC := Lib.hid hbc
 have HBW := Lib.hid (below_keep HB3.out hbc)
 obtain ⟨d0, d1, -⟩ := HBX.out wc hbc
 have HL3 : Hid (LayB wc w.heap.size (.slice p1 ss.length k1) (.slice p2 oo.length k2) ⟨ss, oo, o, t, f, c'⟩) := HLB1.out wc (below_keep HB13.out hbc)
 obtain ⟨l0, l1, l2, l3, l4, l5⟩ := HL3.out
 clear hbc
 by_cases h0 : lo.length = 0
 ·have t0 : ((lo.length : Int) == 0) = true := by rw [h0]; rfl
  clear h0
  go_wp2_with fail
  refine (CW.out _ HBW.out).mono ?_
  rintro e z9 ⟨rfl, hb⟩
  have HBE := Lib.hid (below_keep HBW.out hb)
  clear hb CW
  go_wp2
  go_ret
  exact ⟨rfl, HBE.out⟩
 have h0p : 0 < lo.length := by omega
 have H0 := Lib.hid h0p
 have t0 : ((lo.length : Int) == 0) = false := by rw [beq_eq_false_iff_ne]; omega
 clear h0
 by_cases h4 : 400 < N
 ·have t4 : decide ((400 : Int) < (N : Int)) = true := decide_eq_true (by omega)
  clear h4 h0p
  go_wp2_with fail
  refine (CW.out _ HBW.out).mono ?_
  rintro e z9 ⟨rfl, hb⟩
  have HBE := Lib.hid (below_keep HBW.out hb)
  clear hb CW
  go_wp2
  go_ret
  exact ⟨rfl, HBE.out⟩
 have t4 : decide ((400 : Int) < (N : Int)) = false := decide_eq_false (by omega)
 have H4 : Hid (N ≤ 400) := by show _ ≤ _; omega
 clear h4 h0p
 go_wp2_with fail
 refine (CLL.out _ HBW.out).mono ?_
 rintro e w5 ⟨b, rfl, -, hb⟩
 have HBC5 := Lib.hid (below_keep HBC.out hb)
 have HBW5 := Lib.hid (below_keep HBW.out hb)
 obtain ⟨d0, d1, -⟩ := HBX.out w5 HBC5.out
 have HL5 : Hid (LayB w5 w.heap.size (.slice p1 ss.length k1) (.slice p2 oo.length k2) ⟨ss, oo, o, t, f, c'⟩) := HLB1.out w5 (below_keep HB13.out HBC5.out)
 obtain ⟨l0, l1, l2, l3, l4, l5⟩ := HL5.out
 clear hb CLL HL3
 cases b with
 | false =>
  go_wp2_with fail
  refine (CW.out _ HBW5.out).mono ?_
  rintro e z9 ⟨rfl, hb⟩
  have HBE := Lib.hid (below_keep HBW5.out hb)
  clear hb CW
  go_wp2
  go_ret
  exact ⟨rfl, HBE.out⟩
 | true =>
  have HFO := Lib.hid (And.intro (HSM.out.formed H0.out) (HSM.out.lim (by rw [← HN.out]; have := H4.out; omega)))
  have H1W := Lib.hid (H1.out.later IntR.lasts HBC5.out)
  have H2W := Lib.hid (H2.out.later IntR.lasts HBC5.out)
  have HLW := Lib.hid (HL.out.later HBW5.out)
  by_cases hord : orderedB o t = true
  ·have HORD := Lib.hid hord
   have hbs := boxS_of HFO.out.1 HFO.out.2
   have HMIN : Hid (∀ x ∈ lo, -9223372036854775808 ≤ x) := fun x hx => by
    obtain ⟨j, hj⟩ := List.mem_iff_getElem?.1 hx
    have hjl := (List.getElem?_eq_some_iff.1 hj).1
    obtain ⟨b, hb⟩ : ∃ b, hi[j]? = some b := ⟨_, List.getElem?_eq_getElem (by rw [← HSM.out.len]; exact hjl)⟩
    have := HSM.out.each j x b hj hb
    omega
   have HFN := Lib.hid (ofV_all o t (bitsL 0 lo hi) lo.length H0.out HSM.out.l4 hbs.bits hord)
   have HBS := Lib.hid hbs
   have CS := Lib.hid (seq_all _ _ _ _ ⟨ss, oo, o, t, f, c'⟩ lo hi w5 HLW.out H1W.out H2W.out HMIN.out hord HFO.out.1 HFO.out.2 HFN.out)
   clear hord hbs
   go_wp2_with fail
   refine CS.out.mono ?_
   rintro e w6 ⟨v6, r, rfl, hs, hr, hb⟩
   obtain ⟨p6, k6, rfl, -⟩ := hr.shape
   have hrl : r.length = N := by rw [hs.1.length_eq, ptsL_length, HN.out]
   have HRL := Lib.hid hrl
   have HR := Lib.hid hr
   have HBC6 := Lib.hid (below_keep HBC5.out hb)
   have HBW6 := Lib.hid (below_keep HBW5.out hb)
   have CR : Hid (∀ (i : Nat) (c : List Int), r[i]? = some c → InBox lo hi c ∧ ∀ (vc : Value) (w9 : World), Below w6.heap.size w6 w9 → Ints w9 vc c → Calls Tryz.prog 13 #[layV (.slice p1 ss.length k1) (.slice p2 oo.length k2) ⟨ss, oo, o, t, f, c'⟩, .agg #[.slice q1 lo.length j1, .slice q2 lo.length j2], vc] w9 (RetV' (.tuple #[.int .i64 (i : Nat), .int .i64 0]) w9)) := fun i c hc => by
    have hmem := hs.1.mem_iff.1 (List.mem_of_getElem? hc)
    have hin : InBox lo hi c := (inBox_of HSM.out.len).1 hmem
    refine ⟨hin, fun vc w9 h9 hv => ?_⟩
    have := rank_core (.slice p1 ss.length k1) (.slice p2 oo.length k2) (.slice q1 lo.length j1) (.slice q2 lo.length j2) vc ⟨ss, oo, o, t, f, c'⟩ lo hi c w9 (HL.out.later (below_keep HBW6.out h9)) (H1.out.later IntR.lasts (below_keep HBC6.out h9)) (H2.out.later IntR.lasts (below_keep HBC6.out h9)) hv HMIN.out HORD.out HFO.out.1 hin.len HFO.out.2 (hasB_in HFO.out.1 hin) (pts_ok HFO.out.2 HSM.out.len hmem) HFN.out
    rw [rankN_of HBS.out hs hc] at this
    exact this
   simp only [hrl] at HR ⊢
   clear hs hr hb CS hrl d0 d1 l0 l1 l2 l3 l4 l5 HL5 H1W H2W HLW
   have nb0 : (0 : Int) ≤ (N : Int) := by omega
   have nb1 : (N : Int) ≤ 400 := by have := H4.out; omega
   go_wp2
   go_loopw [11] (fun iv wr => ∃ i : Nat, i ≤ N ∧ iv = .int .i64 (i : Nat) ∧ Below w6.heap.size w6 wr) (fun iv _ => N - (intOf iv).toNat)
   case atStart => exact ⟨0, Nat.zero_le _, rfl, Below.refl _ _⟩
   case round =>
    obtain ⟨i, hi', rfl, hb⟩ := hrel
    have HBR := Lib.hid hb
    by_cases hlt : i < N
    ·obtain ⟨gr, or', c, ea, hc, hrow⟩ := HR.out.at i (by rw [HRL.out]; exact hlt)
     subst ea
     obtain ⟨vc, z0, hci⟩ := hrow.ex
     rw [Nat.mul_one] at z0
     obtain ⟨hin, hcr⟩ := CR.out i c hc
     obtain ⟨pc, kc, rfl, -⟩ := hci.shape
     rw [hin.len] at z0 hci
     have HCI : Hid (Ints w6 (.slice pc lo.length kc) c) := hci
     have CRi := Lib.hid (fun w9 (h9 : Below wr.heap.size wr w9) => hcr (.slice pc lo.length kc) w9 (below_keep HBR.out h9) (HCI.out.later IntR.lasts (below_keep HBR.out h9)))
     have CIi := Lib.hid (fun w9 (h9 : Below wr.heap.size wr w9) => inside_yes (.slice q1 lo.length j1) (.slice q2 lo.length j2) (.slice pc lo.length kc) lo hi c w9 (H1.out.later IntR.lasts (below_keep (below_keep HBC6.out HBR.out) h9)) (H2.out.later IntR.lasts (below_keep (below_keep HBC6.out HBR.out) h9)) (HCI.out.later IntR.lasts (below_keep HBR.out h9)) HSM.out.len.symm hin)
     have KX : Hid (∀ wz, Below wr.heap.size wr wz → (wz.cell? ⟨w.heap.size, 0, none⟩ = some (.slice p1 ss.length k1) ∧ wz.cell? ⟨w.heap.size, 1, none⟩ = some (.slice p2 oo.length k2) ∧ wz.cell? ⟨w.heap.size, 2, none⟩ = some (.int .i64 o) ∧ wz.cell? ⟨w.heap.size, 3, none⟩ = some (.int .i64 t) ∧ wz.cell? ⟨w.heap.size, 4, none⟩ = some (.int .i64 f) ∧ wz.cell? ⟨w.heap.size, 5, none⟩ = some (.int .i64 c') ∧ wz.cell? ⟨w2.heap.size, 0, none⟩ = some (.slice q1 lo.length j1) ∧ wz.cell? ⟨w2.heap.size, 1, none⟩ = some (.slice q2 lo.length j2) ∧ wz.cell? ⟨gr, or' + i, none⟩ = some (.slice pc lo.length kc) ∧ Below wr.heap.size wr wz)) := fun wz h => by
      obtain ⟨l0, l1, l2, l3, l4, l5⟩ := HLB1.out wz (below_keep HB13.out (below_keep (below_keep HBC6.out HBR.out) h))
      obtain ⟨d0, d1, -⟩ := HBX.out wz (below_keep (below_keep HBC6.out HBR.out) h)
      exact ⟨l0, l1, l2, l3, l4, l5, d0, d1, cell_later z0 (below_keep HBR.out h), h⟩
     have ib0 : (0 : Int) ≤ (i : Int) := by omega
     have ib1 : (i : Int) < (N : Int) := by omega
     have HI1 : Hid (i + 1 ≤ N ∧ N - (i + 1) < N - i) := by show _ ∧ _; omega
     clear hc hrow hci hin hcr hb hlt hi' z0
     go_upto_region 18 with (fail)
     go_cut [12, 13] (fun a b wx => a = .int .i64 (i : Nat) ∧ b = .int .i64 0 ∧ Below wr.heap.size wr wx)
     case first =>
      obtain ⟨l0, l1, l2, l3, l4, l5, d0, d1, z0, -⟩ := KX.out wr (Below.refl _ _)
      go_wp2_with fail
      go_region_held3 (fun wz => (wz.cell? ⟨w.heap.size, 0, none⟩ = some (.slice p1 ss.length k1) ∧ wz.cell? ⟨w.heap.size, 1, none⟩ = some (.slice p2 oo.length k2) ∧ wz.cell? ⟨w.heap.size, 2, none⟩ = some (.int .i64 o) ∧ wz.cell? ⟨w.heap.size, 3, none⟩ = some (.int .i64 t) ∧ wz.cell? ⟨w.heap.size, 4, none⟩ = some (.int .i64 f) ∧ wz.cell? ⟨w.heap.size, 5, none⟩ = some (.int .i64 c') ∧ wz.cell? ⟨w2.heap.size, 0, none⟩ = some (.slice q1 lo.length j1) ∧ wz.cell? ⟨w2.heap.size, 1, none⟩ = some (.slice q2 lo.length j2) ∧ wz.cell? ⟨gr, or' + i, none⟩ = some (.slice pc lo.length kc) ∧ Below wr.heap.size wr wz))
       (first | exact KX.out _ (Below.refl _ _).drew | exact KX.out _ (by assumption))
       ((go_at_call 13; refine (CRi.out _ (Below.refl _ _).drew).mono ?_; rintro e wy ⟨rfl, hb2⟩; have hb3 : Below wr.heap.size wr wy := below_keep (Below.refl _ _).drew hb2))
      go_wp2
      go_meet
      exact ⟨rfl, rfl, hb3⟩
     case rest =>
     obtain ⟨rfl, rfl, hbc⟩ := hcut
     have HBX9 := Lib.hid hbc
     clear hbc
     have tii : ((i : Int) != (i : Int)) = false := by simp
     have KX2 : Hid (∀ wz, Below wc.heap.size wc wz → (wz.cell? ⟨w2.heap.size, 0, none⟩ = some (.slice q1 lo.length j1) ∧ wz.cell? ⟨w2.heap.size, 1, none⟩ = some (.slice q2 lo.length j2) ∧ wz.cell? ⟨gr, or' + i, none⟩ = some (.slice pc lo.length kc) ∧ Below wc.heap.size wc wz)) := fun wz h => by
      obtain ⟨-, -, -, -, -, -, d0, d1, z0, -⟩ := KX.out wz (below_keep HBX9.out h)
      exact ⟨d0, d1, z0, h⟩
     go_upto_region 19 with (fail)
     go_cut [140] (fun a wx => a = .bool false ∧ Below wc.heap.size wc wx)
     case first =>
      obtain ⟨d0, d1, z0, -⟩ := KX2.out wc (Below.refl _ _)
      go_wp2_with fail
      go_region_held3 (fun wz => (wz.cell? ⟨w2.heap.size, 0, none⟩ = some (.slice q1 lo.length j1) ∧ wz.cell? ⟨w2.heap.size, 1, none⟩ = some (.slice q2 lo.length j2) ∧ wz.cell? ⟨gr, or' + i, none⟩ = some (.slice pc lo.length kc) ∧ Below wc.heap.size wc wz))
       (first | exact KX2.out _ (Below.refl _ _).drew | exact KX2.out _ (by assumption))
       ((go_at_call 17; refine (CIi.out _ (below_keep HBX9.out (Below.refl _ _).drew)).mono ?_; rintro e wy ⟨rfl, hb2⟩; have hb3 : Below wc.heap.size wc wy := below_keep (Below.refl _ _).drew hb2))
      go_wp2
      go_meet
      exact ⟨rfl, hb3⟩
     case rest =>
     obtain ⟨rfl, hbc⟩ := hcut
     have HB9 := Lib.hid (below_keep HBR.out (below_keep HBX9.out hbc))
     clear hbc
     go_wp2
     exact ⟨⟨i + 1, HI1.out.1, by go_num, HB9.out⟩, HI1.out.2⟩
    ·have hni : ¬ (i : Int) < (N : Int) := by omega
     clear hb hlt hi' CR
     go_wp2_with fail
     refine (CW.out _ (below_keep HBW6.out HBR.out)).mono ?_
     rintro e z9 ⟨rfl, hb⟩
     have HBE := Lib.hid (below_keep (below_keep HBW6.out HBR.out) hb)
     clear hb CW
     go_wp2
     go_ret
     exact ⟨rfl, HBE.out⟩
  ·have HORD : Hid (orderedB o t = false) := by show _ = _; simpa using hord
   clear hord
   have CS := Lib.hid (seq_bad _ _ _ _ ⟨ss, oo, o, t, f, c'⟩ lo hi w5 HLW.out H1W.out H2W.out HORD.out)
   go_wp2_with fail
   refine CS.out.mono ?_
   rintro e w6 ⟨v6, r, rfl, rfl, hr, hb⟩
   obtain ⟨p6, k6, rfl, -⟩ := hr.shape
   have HBC6 := Lib.hid (below_keep HBC5.out hb)
   have HBW6 := Lib.hid (below_keep HBW5.out hb)
   have HL6 : Hid (LayB w6 w.heap.size (.slice p1 ss.length k1) (.slice p2 oo.length k2) ⟨ss, oo, o, t, f, c'⟩) := HLB1.out w6 (below_keep HB13.out HBC6.out)
   obtain ⟨l0, l1, l2, l3, l4, l5⟩ := HL6.out
   clear hb hr CS HL5 d0 d1
   have hord := HORD.out
   clear HORD HL6
   unfold orderedB at hord
   by_cases ho1 : o < 1
   ·have g1 : decide ((1 : Int) ≤ o) = false := decide_eq_false (by omega)
    clear hord ho1
    go_wp2_with fail
    refine (CW.out _ HBW6.out).mono ?_
    rintro e z9 ⟨rfl, hb⟩
    have HBE := Lib.hid (below_keep HBW6.out hb)
    clear hb CW
    go_wp2
    go_ret
    exact ⟨rfl, HBE.out⟩
   have g1 : decide ((1 : Int) ≤ o) = true := decide_eq_true (by omega)
   by_cases ho3 : 3 < o
   ·have g2 : decide (o ≤ (3 : Int)) = false := decide_eq_false (by omega)
    clear hord ho1 ho3
    go_wp2_with fail
    refine (CW.out _ HBW6.out).mono ?_
    rintro e z9 ⟨rfl, hb⟩
    have HBE := Lib.hid (below_keep HBW6.out hb)
    clear hb CW
    go_wp2
    go_ret
    exact ⟨rfl, HBE.out⟩
   have g2 : decide (o ≤ (3 : Int)) = true := decide_eq_true (by omega)
   by_cases h3 : o = 3
   ·rw [if_neg (by omega), if_pos h3, Bool.and_eq_false_iff] at hord
    have g3 : (o == (3 : Int)) = true := by rw [h3]; rfl
    have g4 : (o != (3 : Int)) = false := by rw [h3]; rfl
    clear ho1 ho3 h3
    by_cases h1t : 1 ≤ t
    ·have g5 : decide ((1 : Int) ≤ t) = true := decide_eq_true h1t
     have g6 : decide (t ≤ (64 : Int)) = false := hord.resolve_left (by rw [g5]; decide)
     clear hord h1t
     go_wp2_with fail
     refine (CW.out _ HBW6.out).mono ?_
     rintro e z9 ⟨rfl, hb⟩
     have HBE := Lib.hid (below_keep HBW6.out hb)
     clear hb CW
     go_wp2
     go_ret
     exact ⟨rfl, HBE.out⟩
    ·have g5 : decide ((1 : Int) ≤ t) = false := decide_eq_false h1t
     clear hord h1t
     go_wp2_with fail
     refine (CW.out _ HBW6.out).mono ?_
     rintro e z9 ⟨rfl, hb⟩
     have HBE := Lib.hid (below_keep HBW6.out hb)
     clear hb CW
     go_wp2
     go_ret
     exact ⟨rfl, HBE.out⟩
   ·rw [if_pos (by omega)] at hord
    have g3 : (o == (3 : Int)) = false := by rw [beq_eq_false_iff_ne]; exact h3
    have g4 : (o != (3 : Int)) = true := by rw [bne_iff_ne]; exact h3
    have g5 : (t == (0 : Int)) = false := by rw [beq_eq_false_iff_ne]; exact of_decide_eq_false hord
    clear hord ho1 ho3 h3
    go_wp2_with fail
    refine (CW.out _ HBW6.out).mono ?_
    rintro e z9 ⟨rfl, hb⟩
    have HBE := Lib.hid (below_keep HBW6.out hb)
    clear hb CW
    go_wp2
    go_ret
    exact ⟨rfl, HBE.out⟩
end Go.Proofs.YtkliekoheeeamaaGreatDoor
