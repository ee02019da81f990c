/- The reference's Inter: the contract. -/
import Derived.Deep.DeepCutAuto
import Derived.Deep.CutBlock
import Derived.Deep.RegionHeld3
import Derived.BigQuiet
import Derived.Deep.AppendLies
import Derived.Test.YtpdhlgkcjakcgaaGreatDoorS21
namespace Go.Proofs.YtpdhlgkcjakcgaaGreatDoor
open Go.RowKit Go.Shelf
attribute [local go_sem] Oper.semAt_some

set_option maxHeartbeats 3200000 in
set_option maxRecDepth 100000 in
theorem rinter_bad (va1 va2 vb1 vb2 : Value) (al ah bl bh : List Int) (w : World) (h1 : Ints w va1 al) (h2 : Ints w va2 ah) (h3 : Ints w vb1 bl) (h4 : Ints w vb2 bh) (h : formedB al ah = false ∨ formedB bl bh = false ∨ al.length ≠ bl.length) :
    Calls Tryz.prog 41 #[.agg #[va1, va2], .agg #[vb1, vb2]] w (RetBxB none w) := by
  have CF1 := Lib.hid (fun w1 (hb : Below w.heap.size w w1) => rformed_any va1 va2 al ah w1 (h1.later IntR.lasts hb) (h2.later IntR.lasts hb))
  have CF2 := Lib.hid (fun w1 (hb : Below w.heap.size w w1) => rformed_any vb1 vb2 bl bh w1 (h3.later IntR.lasts hb) (h4.later IntR.lasts hb))
  obtain ⟨a1, c1, rfl, -⟩ := h1.shape
  obtain ⟨a2, c2, rfl, -⟩ := h2.shape
  obtain ⟨a3, c3, rfl, -⟩ := h3.shape
  obtain ⟨a4, c4, rfl, -⟩ := h4.shape
  obtain ⟨W1, hW1, hb1, hs1, hbx⟩ := box3_at w (.slice a1 al.length c1) (.slice a2 ah.length c2) (.slice a3 bl.length c3) (.slice a4 bh.length c4)
  have HB1 := Lib.hid hb1
  have HBX := Lib.hid hbx
  have HS1 := Lib.hid hs1
  clear h1 h2 h3 h4 hb1 hbx hs1
  cases hf : formedB al ah with
  | false =>
    rw [hf] at CF1
    clear hf h
    go_enter Tryz.func41, Tryz.ntmps41
    go_wp2_with fail
    rw [← hW1]
    refine (CF1.out _ HB1.out).mono ?_
    rintro e w2 ⟨rfl, hb⟩
    have HB2 := Lib.hid hb
    obtain ⟨d0, d1, d2, d3, ⟨r0, r1, r2, r3⟩⟩ := HBX.out w2 hb
    clear hb hW1 CF1
    go_wp2
    refine bodyPost_ret (by simp [results, Tryz.results41, go_sem, r0, r1]; try rfl) rfl ?_
    exact ⟨_, _, rfl, IntsO.nil _, IntsO.nil _, ((below_keep HB1.out HB2.out).setCell (by simp <;> omega) _).setCell (by simp <;> omega) _⟩
  | true =>
    rw [hf] at CF1
    cases hg : formedB bl bh with
    | false =>
      rw [hg] at CF2
      clear hf h hg
      go_enter Tryz.func41, Tryz.ntmps41
      go_wp2_with fail
      rw [← hW1]
      refine (CF1.out _ HB1.out).mono ?_
      rintro e w2 ⟨rfl, hb⟩
      have HB2 := Lib.hid hb
      obtain ⟨d0, d1, d2, d3, -⟩ := HBX.out w2 hb
      clear hb hW1 CF1
      go_wp2_with fail
      refine (CF2.out _ (below_keep HB1.out HB2.out)).mono ?_
      rintro e w3 ⟨rfl, hb⟩
      have HB3 := Lib.hid (below_keep HB2.out hb)
      obtain ⟨d0, d1, d2, d3, ⟨r0, r1, r2, r3⟩⟩ := HBX.out w3 HB3.out
      clear hb CF2
      go_wp2
      refine bodyPost_ret (by simp [results, Tryz.results41, go_sem, r0, r1]; try rfl) rfl ?_
      exact ⟨_, _, rfl, IntsO.nil _, IntsO.nil _, ((below_keep HB1.out HB3.out).setCell (by simp <;> omega) _).setCell (by simp <;> omega) _⟩
    | true =>
      have h5 : ((al.length : Int) != bl.length) = true := by
        rw [bne_iff_ne]
        rcases h with h | h | h
        · rw [hf] at h; cases h
        · rw [hg] at h; cases h
        · omega
      rw [hg] at CF2
      clear hf h hg
      go_enter Tryz.func41, Tryz.ntmps41
      go_wp2_with fail
      rw [← hW1]
      refine (CF1.out _ HB1.out).mono ?_
      rintro e w2 ⟨rfl, hb⟩
      have HB2 := Lib.hid hb
      obtain ⟨d0, d1, d2, d3, -⟩ := HBX.out w2 hb
      clear hb hW1 CF1
      go_wp2_with fail
      refine (CF2.out _ (below_keep HB1.out HB2.out)).mono ?_
      rintro e w3 ⟨rfl, hb⟩
      have HB3 := Lib.hid (below_keep HB2.out hb)
      obtain ⟨d0, d1, d2, d3, ⟨r0, r1, r2, r3⟩⟩ := HBX.out w3 HB3.out
      clear hb CF2
      go_wp2
      refine bodyPost_ret (by simp [results, Tryz.results41, go_sem, r0, r1]; try rfl) rfl ?_
      exact ⟨_, _, rfl, IntsO.nil _, IntsO.nil _, ((below_keep HB1.out HB3.out).setCell (by simp <;> omega) _).setCell (by simp <;> omega) _⟩
set_option maxHeartbeats 32000000 in
set_option maxRecDepth 100000 in
theorem rinter_core (va1 va2 vb1 vb2 : Value) (al ah bl bh : List Int) (w : World) (h1 : Ints w va1 al) (h2 : Ints w va2 ah) (h3 : Ints w vb1 bl) (h4 : Ints w vb2 bh) (hf : formedB al ah = true) (hg : formedB bl bh = true) (h : al.length = bl.length) :
    Calls Tryz.prog 41 #[.agg #[va1, va2], .agg #[vb1, vb2]] w (RetBxB (interL [] [] al ah bl bh) w) := by
  have CF1 := Lib.hid (fun w1 (hb : Below w.heap.size w w1) => rformed_any va1 va2 al ah w1 (h1.later IntR.lasts hb) (h2.later IntR.lasts hb))
  have CF2 := Lib.hid (fun w1 (hb : Below w.heap.size w w1) => rformed_any vb1 vb2 bl bh w1 (h3.later IntR.lasts hb) (h4.later IntR.lasts hb))
  rw [hf] at CF1
  rw [hg] at CF2
  unfold formedB at hf hg
  simp only [Bool.and_eq_true, decide_eq_true_eq] at hf hg
  have hla : ah.length = al.length := hf.1.1.symm
  have hlb : bh.length = bl.length := hg.1.1.symm
  have hn4 : al.length ≤ 4 := hf.2
  have hbl : bl.length = al.length := h.symm
  have hbh : bh.length = al.length := hlb.trans hbl
  have HA1 := Lib.hid h1
  have HA2 := Lib.hid h2
  have HA3 := Lib.hid h3
  have HA4 := Lib.hid h4
  have HLA := Lib.hid hla
  have HLB := Lib.hid hbl
  have HLC := Lib.hid hbh
  obtain ⟨a1, c1, rfl, -⟩ := h1.shape
  obtain ⟨a2, c2, rfl, -⟩ := h2.shape
  obtain ⟨a3, c3, rfl, -⟩ := h3.shape
  obtain ⟨a4, c4, rfl, -⟩ := h4.shape
  simp only [hla, hbl, hbh] at CF1 CF2 HA1 HA2 HA3 HA4 ⊢
  obtain ⟨i0, hi0, hz0, hz1, hz2⟩ := info_parts infoZ
  obtain ⟨R9, hR9⟩ : ∃ R, R = interL [] [] al ah bl bh := ⟨_, rfl⟩
  rw [← hR9]
  have HR9 := Lib.hid hR9
  obtain ⟨W1, hW1, hb1, hs1, hbx⟩ := box3_at w (.slice a1 al.length c1) (.slice a2 al.length c2) (.slice a3 al.length c3) (.slice a4 al.length c4)
  have HB1 := Lib.hid hb1
  have HBX := Lib.hid hbx
  have HS1 := Lib.hid hs1
  clear h1 h2 h3 h4 hb1 hbx hs1 hf hg h hla hlb hbl hbh hR9
  go_enter Tryz.func41, Tryz.ntmps41
  go_wp2_with fail
  rw [← hW1]
  refine (CF1.out _ HB1.out).mono ?_
  rintro e w2 ⟨rfl, hb⟩
  have HB2 := Lib.hid hb
  obtain ⟨d0, d1, d2, d3, -⟩ := HBX.out w2 hb
  clear hb hW1 CF1
  go_wp2_with fail
  refine (CF2.out _ (below_keep HB1.out HB2.out)).mono ?_
  rintro e w3 ⟨rfl, hb⟩
  have HB3 := Lib.hid (below_keep HB2.out hb)
  have HS3 : Hid (w.heap.size + 3 ≤ w3.heap.size) := by have := HB3.out.size; have := HS1.out; show _ ≤ _; omega
  obtain ⟨d0, d1, d2, d3, -⟩ := HBX.out w3 HB3.out
  have HBN : Hid (BoxO w3.heap.size w3.heap.size (w3.alloc (.cells #[.slice none 0 0, .slice none 0 0] 52)) (.slice none 0 0) (.slice none 0 0) [] []) :=
    ⟨ResB.made w3 _, World.ownsRow_nil _ _ _ _, World.ownsRow_nil _ _ _ _, (fun b hb => by cases hb), ⟨_, (0, 0), World.alloc_heap_new w3 _⟩⟩
  have hq : w.heap.size < w3.heap.size := by have := HS3.out; omega
  have hq' : w.heap.size ≠ w3.heap.size := Nat.ne_of_lt hq
  have hq1 : w.heap.size + 1 < w3.heap.size := by have := HS3.out; omega
  have hq1' : w.heap.size + 1 ≠ w3.heap.size := Nat.ne_of_lt hq1
  clear hb CF2
  go_wp2
  clear d0 d1 d2 d3 hq hq' hq1 hq1'
  go_loopw [7] (fun iv wr => ∃ (i : Nat) (v1 v2 : Value) (lo hi : List Int), i ≤ al.length ∧ iv = .int .i64 (i : Nat) ∧ Hid (lo.length = i ∧ hi.length = i) ∧ Hid (interL lo hi (al.drop i) (ah.drop i) (bl.drop i) (bh.drop i) = R9) ∧ BoxO w3.heap.size w3.heap.size wr v1 v2 lo hi ∧ Below w3.heap.size w3 wr) (fun iv _ => al.length - (intOf iv).toNat)
  case atStart => exact ⟨0, _, _, [], [], Nat.zero_le _, rfl, ⟨rfl, rfl⟩, HR9.out.symm, HBN.out, below_alloc _ _⟩
  case round =>
    obtain ⟨i, v1, v2, lo, hi, hi', rfl, HLN, HN, hbo, hb⟩ := hrel
    have HBO := Lib.hid hbo
    have HBR := Lib.hid hb
    have HBX3 := Lib.hid (HBX.out wr (below_keep HB3.out hb))
    have HBW := Lib.hid (below_keep HB1.out (below_keep HB3.out hb))
    clear hbo hb
    by_cases hlt : i < al.length
    · obtain ⟨g1, o1, x1, e1, hx1, hr1⟩ := (HA1.out.later IntR.lasts HBW.out).at i hlt
      obtain ⟨g2, o2, x2, e2, hx2, hr2⟩ := Ls.at (n := al.length) (HA2.out.later IntR.lasts HBW.out) i (by rw [HLA.out]; exact hlt)
      obtain ⟨g3, o3, x3, e3, hx3, hr3⟩ := Ls.at (n := al.length) (HA3.out.later IntR.lasts HBW.out) i (by rw [HLB.out]; exact hlt)
      obtain ⟨g4, o4, x4, e4, hx4, hr4⟩ := Ls.at (n := al.length) (HA4.out.later IntR.lasts HBW.out) i (by rw [HLC.out]; exact hlt)
      subst e1 e2 e3 e4
      rw [Nat.mul_one] at hr1 hr2 hr3 hr4
      unfold IntR at hr1 hr2 hr3 hr4
      have hn := HN.out
      rw [interL_drop hx1 hx2 hx3 hx4] at hn
      have HI1 : Hid (i + 1 ≤ al.length) := hlt
      have HI2 : Hid (al.length - (i + 1) < al.length - i) := by show _ < _; omega
      have ib0 : (0 : Int) ≤ (i : Int) := by omega
      have ib1 : (i : Int) < (al.length : Int) := by omega
      obtain ⟨d0, d1, d2, d3, -⟩ := HBX3.out
      obtain ⟨G, hG⟩ : ∃ G, G = if (1073741825 : Int) < (if x4 < x2 then x4 else x2) then 1073741825 else if x4 < x2 then x4 else x2 := ⟨_, rfl⟩
      obtain ⟨F, hF⟩ : ∃ F, F = max x1 x3 := ⟨_, rfl⟩
      have hG' : min3 x2 x4 = G := hG.symm
      rw [hG', ← hF] at hn
      have HNN := Lib.hid hn
      have HG := Lib.hid hG
      have HF := Lib.hid hF
      have CU := Lib.hid (fun w1 => rbelow_any F G w1)
      obtain ⟨U, hU⟩ : ∃ U, U = upB F G := ⟨_, rfl⟩
      rw [← hU] at CU HNN
      clear hx1 hx2 hx3 hx4 hn HN hU hG hF hG'
      go_wp2_with fail
      go_quiet (fail)
      rw [← HF.out]
      obtain ⟨n1, hn1⟩ : ∃ n1, n1 = nq := ⟨_, rfl⟩
      rw [← hn1]
      clear hn1
      have HBQ1 := Lib.hid (below_drewN' wr n1)
      clear d0 d1 d2 d3
      obtain ⟨d0, d1, d2, d3, -⟩ := HBX.out (wr.drewN n1) (below_keep HB3.out (below_keep HBR.out HBQ1.out))
      obtain ⟨Wc, hWc⟩ : ∃ Wc, Wc = wr.drewN n1 := ⟨_, rfl⟩
      have hr2 := cell_later hr2 HBQ1.out
      have hr4 := cell_later hr4 HBQ1.out
      rw [← hWc] at HBQ1 d0 d1 d2 d3 hr2 hr4 ⊢
      clear hWc hr1 hr3
      go_wp2_with fail
      go_quiet (fail)
      rw [← HG.out]
      obtain ⟨n2, hn2⟩ : ∃ n2, n2 = nq := ⟨_, rfl⟩
      rw [← hn2]
      clear hn2
      have HBQ := Lib.hid (HBQ1.out.trans ((below_drewN' Wc n2).mono HBQ1.out.size))
      have HBXQ := Lib.hid (HBX.out (Wc.drewN n2) (below_keep HB3.out (below_keep HBR.out HBQ.out)))
      obtain ⟨Wd, hWd⟩ : ∃ Wd, Wd = Wc.drewN n2 := ⟨_, rfl⟩
      rw [← hWd] at HBQ HBXQ ⊢
      clear hWd d0 d1 d2 d3 hr2 hr4
      go_wp2_with fail
      refine (CU.out _).mono ?_
      rintro e w5 ⟨rfl, rfl⟩
      cases U with
      | false =>
        have HE : Hid (R9 = none) := by have := HNN.out; rw [if_neg (by decide)] at this; exact this.symm
        obtain ⟨-, -, -, -, ⟨r0, r1, r2, r3⟩⟩ := HBXQ.out
        go_wp2
        refine bodyPost_ret (by simp [results, Tryz.results41, go_sem, r0, r1]; try rfl) rfl ?_
        rw [HE.out]
        exact ⟨_, _, rfl, IntsO.nil _, IntsO.nil _, ((below_keep HBW.out HBQ.out).setCell (by simp <;> omega) _).setCell (by simp <;> omega) _⟩
      | true =>
        have hE := HNN.out
        rw [if_pos rfl] at hE
        have HE := Lib.hid hE
        have HB0 : Hid (BoxO w3.heap.size w3.heap.size w5 v1 v2 lo hi) := HBO.out.later HBQ.out
        have HBC := Lib.hid (HBR.out.trans (HBQ.out.mono HBR.out.size))
        have hll : lo.length ≤ 900 := by have := HLN.out.1; omega
        have hlh : hi.length ≤ 900 := by have := HLN.out.2; omega
        obtain ⟨⟨f0, f1, f2, f3⟩, ow1, ow2, hap, htg⟩ := HB0.out
        have hq1 : w3.heap.size < w5.heap.size := htg.lt
        have hq2 : w3.heap.size ≠ w5.heap.size := Nat.ne_of_lt hq1
        have hge1 : w3.heap.size ≤ w5.heap.size := Nat.le_of_lt hq1
        clear hE HNN hap htg ow2
        go_wp2_with (at_builtin; refine wpList_append_lies _ (by rfl) _ _ 38 (by rfl) w3.heap.size 3 i0 (.int .i64 0) 1 8 Tryz.underlying38 hi0 hz0 hz1 hz2 rfl (by decide) v1 lo.length (lo.map (Value.int .i64)) (by rfl) (ow1.alloc _) ⟨w5.heap.size, 0, none⟩ 1 1 [.int .i64 F] (by rfl) (by rfl) (cell_one_new _ _ _) (by simp [Value.oneCell']) (by omega) (by unfold maxLen; omega) (by omega) (by simp; omega) (w5.heap.size + 1) (by simp) ?_)
        intro g1 cp1 w6 hown hgrow hat hlt6
        have hbd : Below w5.heap.size w5 (w5.alloc (.cells #[.int .i64 F] 3)) := below_alloc _ _
        obtain ⟨⟨f0', f1', f2', f3'⟩, hbo4⟩ := BoxO.put1 (HB0.out.later hbd) (by decide) (H := w5.heap.size + 1) (by simp) hown hgrow hat
        have HBO4 := Lib.hid hbo4
        have HB4 := Lib.hid ((HBC.out.trans ((hbd.mono hge1).grown hgrow (Nat.le_trans hge1 hbd.size) (fun k e => (HB0.out.own1.lt k e).1))).setCell (p := ⟨w3.heap.size, 0, none⟩) (Nat.le_refl _) (.slice (some ⟨g1, 0, none⟩) (lo.length + 1) cp1))
        clear hown hgrow hat hlt6 hbd hbo4 f0 f1 f2 f3 ow1 hq1 hq2 hge1
        go_upto_region 12 with (fail)
        obtain ⟨W7, hW7⟩ : ∃ W7, W7 = w6.setCell ⟨w3.heap.size, 0, none⟩ (.slice (some ⟨g1, 0, none⟩) (lo.length + 1) cp1) := ⟨_, rfl⟩
        rw [← hW7] at HBO4 HB4 ⊢
        clear hW7 f0' f1' f2' f3'
        obtain ⟨⟨f0, f1, f2, f3⟩, ow1, ow2, hap, htg⟩ := HBO4.out
        have hq1 : w3.heap.size < W7.heap.size := htg.lt
        have hq2 : w3.heap.size ≠ W7.heap.size := Nat.ne_of_lt hq1
        have hge1 : w3.heap.size ≤ W7.heap.size := Nat.le_of_lt hq1
        clear hap htg ow1
        go_wp2_with (at_builtin; refine wpList_append_lies _ (by rfl) _ _ 38 (by rfl) w3.heap.size 3 i0 (.int .i64 0) 1 8 Tryz.underlying38 hi0 hz0 hz1 hz2 rfl (by decide) v2 hi.length (hi.map (Value.int .i64)) (by rfl) (ow2.alloc _) ⟨W7.heap.size, 0, none⟩ 1 1 [.int .i64 G] (by rfl) (by rfl) (cell_one_new _ _ _) (by simp [Value.oneCell']) (by omega) (by unfold maxLen; omega) (by omega) (by simp; omega) (W7.heap.size + 1) (by simp) ?_)
        intro g2 cp2 w8 hown hgrow hat hlt6
        have hbd : Below W7.heap.size W7 (W7.alloc (.cells #[.int .i64 G] 3)) := below_alloc _ _
        obtain ⟨⟨f0', f1', f2', f3'⟩, hbo5⟩ := BoxO.put2 (HBO4.out.later hbd) (by decide) (H := W7.heap.size + 1) (by simp) hown hgrow hat
        have HBO5 := Lib.hid hbo5
        have HB5 := Lib.hid ((HB4.out.trans ((hbd.mono hge1).grown hgrow (Nat.le_trans hge1 hbd.size) (fun k e => (HBO4.out.own2.lt k e).1))).setCell (p := ⟨w3.heap.size, 1, none⟩) (Nat.le_refl _) (.slice (some ⟨g2, 0, none⟩) (hi.length + 1) cp2))
        clear hown hgrow hat hlt6 hbd hbo5 f0 f1 f2 f3 ow2 hq1 hq2 hge1
        go_wp2
        refine ⟨⟨i + 1, _, _, _, _, HI1.out, by go_num, ?_, HE.out, HBO5.out, HB5.out⟩, HI2.out⟩
        exact ⟨by rw [List.length_append, HLN.out.1]; rfl, by rw [List.length_append, HLN.out.2]; rfl⟩
    · obtain rfl : i = al.length := by omega
      have hn := HN.out
      rw [List.drop_length, interL] at hn
      · have HWS : Hid (R9 = some (lo, hi)) := hn.symm
        obtain ⟨⟨f0, f1, f2, f3⟩, ow1, ow2, hap, htg⟩ := HBO.out
        obtain ⟨d0, -, -, -, ⟨r0, r1, r2, r3⟩⟩ := HBX3.out
        have h1 := RowZ.append_owns ow1 rfl
        have h2 := RowZ.append_owns ow2 rfl
        have H1 := Lib.hid h1
        have H2 := Lib.hid h2
        obtain ⟨q1, k1, e1, -⟩ := h1.ints.shape
        obtain ⟨q2, k2, e2, -⟩ := h2.ints.shape
        have hlt2 : w.heap.size + 2 < wr.heap.size := World.block_lt_of_cell? _ _ r0
        have hltg : w.heap.size + 2 < w3.heap.size := by have := HS3.out; omega
        have HNG : Hid (∀ (v : Value) (n : Nat) (xs : List Value), wr.ownsRow w3.heap.size 3 1 v n xs → ∀ b, v.ownBlock = some b → b ≠ w.heap.size + 2) := fun v n xs h b hb => by
          have := (h.lt b hb).1
          omega
        have HK1 := Lib.hid (HNG.out v1 _ _ ow1)
        have HK2 := Lib.hid (HNG.out v2 _ _ ow2)
        clear hn ow1 ow2 hap htg h1 h2
        subst e1 e2
        go_wp2
        refine bodyPost_ret (by simp [results, Tryz.results41, go_sem, r0, r1]; try rfl) rfl ?_
        rw [HWS.out]
        have hk : ∀ (x : Value) (l : List Int) (u u' : Value), IntsO wr x l → (∀ b, x.ownBlock = some b → b ≠ w.heap.size + 2) → IntsO ((wr.setCell ⟨w.heap.size + 2, 0, none⟩ u).setCell ⟨w.heap.size + 2, 1, none⟩ u') x l := fun x l u u' h hne =>
          (h.grown (grown_setG wr (w.heap.size + 2) 0 u) (fun r er e2 => by cases er; exact hne _ e2 rfl)).grown (grown_setG _ (w.heap.size + 2) 1 u') (fun r er e2 => by cases er; exact hne _ e2 rfl)
        exact ⟨_, _, rfl, hk _ _ _ _ H1.out HK1.out, hk _ _ _ _ H2.out HK2.out, (HBW.out.setCell (by simp <;> omega) _).setCell (by simp <;> omega) _⟩
      · intro a1 a2 a3 a4 a5 a6 a7 a8 h9
        cases h9
theorem rinter_any (va1 va2 vb1 vb2 : Value) (al ah bl bh : List Int) (w : World) (h1 : Ints w va1 al) (h2 : Ints w va2 ah) (h3 : Ints w vb1 bl) (h4 : Ints w vb2 bh) :
    Calls Tryz.prog 41 #[.agg #[va1, va2], .agg #[vb1, vb2]] w (RetBxB (interB al ah bl bh) w) := by
  unfold interB
  by_cases h : formedB al ah = true ∧ formedB bl bh = true ∧ al.length = bl.length
  · rw [if_pos h]
    exact rinter_core va1 va2 vb1 vb2 al ah bl bh w h1 h2 h3 h4 h.1 h.2.1 h.2.2
  · rw [if_neg h]
    refine rinter_bad va1 va2 vb1 vb2 al ah bl bh w h1 h2 h3 h4 ?_
    cases hf : formedB al ah with
    | false => exact .inl rfl
    | true =>
      cases hg : formedB bl bh with
      | false => exact .inr (.inl rfl)
      | true => exact .inr (.inr fun e => h ⟨hf, hg, e⟩)
end Go.Proofs.YtpdhlgkcjakcgaaGreatDoor
