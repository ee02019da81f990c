/- space.Inter: the contract. (region 10 printed by gen_homes.py) -/
import Derived.Deep.DeepCutAuto
import Derived.Deep.CutBlock
import Derived.Deep.RegionHeld3
import Derived.BigQuiet
import Derived.Test.YtkliekoheeeamaaGreatDoorS13
import Derived.Test.YtkliekoheeeamaaGreatDoorS21
namespace Go.Proofs.YtkliekoheeeamaaGreatDoor
open Go.RowKit Go.Shelf
attribute [local go_sem] Oper.semAt_some

set_option maxHeartbeats 3200000 in
set_option maxRecDepth 100000 in
theorem inter_bad (va1 va2 vb1 vb2 : Value) (al ah bl bh : List Int) (w : World) (h1 : Ints w va1 al) (h2 : Ints w va2 ah) (h3 : Ints w vb1 bl) (h4 : Ints w vb2 bh) (h : formedB al ah = false ∨ formedB bl bh = false ∨ al.length ≠ bl.length) :
  Calls Tryz.prog 23 #[.agg #[va1, va2], .agg #[vb1, vb2]] w (RetBxB none w) := by
 have CF1 := Lib.hid (fun w1 (hb : Below w.heap.size w w1) => formed_any va1 va2 al ah w1 (h1.later IntR.lasts hb) (h2.later IntR.lasts hb))
 have CF2 := Lib.hid (fun w1 (hb : Below w.heap.size w w1) => formed_any vb1 vb2 bl bh w1 (h3.later IntR.lasts hb) (h4.later IntR.lasts hb))
 obtain ⟨a1, c1, rfl, -⟩ := h1.shape
 obtain ⟨a2, c2, rfl, -⟩ := h2.shape
 obtain ⟨a3, c3, rfl, -⟩ := h3.shape
 obtain ⟨a4, c4, rfl, -⟩ := h4.shape
 obtain ⟨W1, hW1, hb1, hs1, hbx⟩ := box3_at w (.slice a1 al.length c1) (.slice a2 ah.length c2) (.slice a3 bl.length c3) (.slice a4 bh.length c4)
 have HB1 := Lib.hid hb1
 have HBX := Lib.hid hbx
 have HS1 := Lib.hid hs1
 clear h1 h2 h3 h4 hb1 hbx hs1
 cases hf : formedB al ah with
 | false =>
  rw [hf] at CF1
  clear hf h
  go_enter Tryz.func23, Tryz.ntmps23
  go_wp2_with fail
  rw [← hW1]
  refine (CF1.out _ HB1.out).mono ?_
  rintro e w2 ⟨rfl, hb⟩
  have HB2 := Lib.hid hb
  obtain ⟨d0, d1, d2, d3, ⟨r0, r1, r2, r3⟩⟩ := HBX.out w2 hb
  clear hb hW1 CF1
  go_wp2
  refine bodyPost_ret (by simp [results, Tryz.results23, go_sem, r0, r1]; try rfl) rfl ?_
  exact ⟨_, _, rfl, IntsO.nil _, IntsO.nil _, ((below_keep HB1.out HB2.out).setCell (by simp <;> omega) _).setCell (by simp <;> omega) _⟩
 | true =>
  rw [hf] at CF1
  cases hg : formedB bl bh with
  | false =>
   rw [hg] at CF2
   clear hf h hg
   go_enter Tryz.func23, Tryz.ntmps23
   go_wp2_with fail
   rw [← hW1]
   refine (CF1.out _ HB1.out).mono ?_
   rintro e w2 ⟨rfl, hb⟩
   have HB2 := Lib.hid hb
   obtain ⟨d0, d1, d2, d3, -⟩ := HBX.out w2 hb
   clear hb hW1 CF1
   go_wp2_with fail
   refine (CF2.out _ (below_keep HB1.out HB2.out)).mono ?_
   rintro e w3 ⟨rfl, hb⟩
   have HB3 := Lib.hid (below_keep HB2.out hb)
   obtain ⟨d0, d1, d2, d3, ⟨r0, r1, r2, r3⟩⟩ := HBX.out w3 HB3.out
   clear hb CF2
   go_wp2
   refine bodyPost_ret (by simp [results, Tryz.results23, go_sem, r0, r1]; try rfl) rfl ?_
   exact ⟨_, _, rfl, IntsO.nil _, IntsO.nil _, ((below_keep HB1.out HB3.out).setCell (by simp <;> omega) _).setCell (by simp <;> omega) _⟩
  | true =>
   have h5 : ((al.length : Int) != bl.length) = true := by
    rw [bne_iff_ne]
    rcases h with h | h | h
    ·rw [hf] at h; cases h
    ·rw [hg] at h; cases h
    ·omega
   rw [hg] at CF2
   clear hf h hg
   go_enter Tryz.func23, Tryz.ntmps23
   go_wp2_with fail
   rw [← hW1]
   refine (CF1.out _ HB1.out).mono ?_
   rintro e w2 ⟨rfl, hb⟩
   have HB2 := Lib.hid hb
   obtain ⟨d0, d1, d2, d3, -⟩ := HBX.out w2 hb
   clear hb hW1 CF1
   go_wp2_with fail
   refine (CF2.out _ (below_keep HB1.out HB2.out)).mono ?_
   rintro e w3 ⟨rfl, hb⟩
   have HB3 := Lib.hid (below_keep HB2.out hb)
   obtain ⟨d0, d1, d2, d3, ⟨r0, r1, r2, r3⟩⟩ := HBX.out w3 HB3.out
   clear hb CF2
   go_wp2
   refine bodyPost_ret (by simp [results, Tryz.results23, go_sem, r0, r1]; try rfl) rfl ?_
   exact ⟨_, _, rfl, IntsO.nil _, IntsO.nil _, ((below_keep HB1.out HB3.out).setCell (by simp <;> omega) _).setCell (by simp <;> omega) _⟩
set_option maxHeartbeats 32000000 in
set_option maxRecDepth 100000 in
theorem inter_core (va1 va2 vb1 vb2 : Value) (al ah bl bh : List Int) (w : World) (h1 : Ints w va1 al) (h2 : Ints w va2 ah) (h3 : Ints w vb1 bl) (h4 : Ints w vb2 bh) (hf : formedB al ah = true) (hg : formedB bl bh = true) (h : al.length = bl.length) :
  Calls Tryz.prog 23 #[.agg #[va1, va2], .agg #[vb1, vb2]] w (RetBxB (interL [] [] al ah bl bh) w) := by
 have CF1 := Lib.hid (fun w1 (hb : Below w.heap.size w w1) => formed_any va1 va2 al ah w1 (h1.later IntR.lasts hb) (h2.later IntR.lasts hb))
 have CF2 := Lib.hid (fun w1 (hb : Below w.heap.size w w1) => formed_any vb1 vb2 bl bh w1 (h3.later IntR.lasts hb) (h4.later IntR.lasts hb))
 rw [hf] at CF1
 rw [hg] at CF2
 unfold formedB at hf hg
 simp only [Bool.and_eq_true, decide_eq_true_eq] at hf hg
 have hla : ah.length = al.length := hf.1.1.symm
 have hlb : bh.length = bl.length := hg.1.1.symm
 have hn4 : al.length ≤ 4 := hf.2
 have hbl : bl.length = al.length := h.symm
 have hbh : bh.length = al.length := hlb.trans hbl
 have HA1 := Lib.hid h1
 have HA2 := Lib.hid h2
 have HA3 := Lib.hid h3
 have HA4 := Lib.hid h4
 have HLA := Lib.hid hla
 have HLB := Lib.hid hbl
 have HLC := Lib.hid hbh
 obtain ⟨a1, c1, rfl, -⟩ := h1.shape
 obtain ⟨a2, c2, rfl, -⟩ := h2.shape
 obtain ⟨a3, c3, rfl, -⟩ := h3.shape
 obtain ⟨a4, c4, rfl, -⟩ := h4.shape
 simp only [hla, hbl, hbh] at CF1 CF2 HA1 HA2 HA3 HA4 ⊢
 obtain ⟨i0, hi0, hz0, hz1, hz2⟩ := info_parts infoZ
 obtain ⟨R9, hR9⟩ : ∃ R, R = interL [] [] al ah bl bh := ⟨_, rfl⟩
 rw [← hR9]
 have HR9 := Lib.hid hR9
 obtain ⟨W1, hW1, hb1, hs1, hbx⟩ := box3_at w (.slice a1 al.length c1) (.slice a2 al.length c2) (.slice a3 al.length c3) (.slice a4 al.length c4)
 have HB1 := Lib.hid hb1
 have HBX := Lib.hid hbx
 have HS1 := Lib.hid hs1
 clear h1 h2 h3 h4 hb1 hbx hs1 hf hg h hla hlb hbl hbh hR9
 go_enter Tryz.func23, Tryz.ntmps23
 go_wp2_with fail
 rw [← hW1]
 refine (CF1.out _ HB1.out).mono ?_
 rintro e w2 ⟨rfl, hb⟩
 have HB2 := Lib.hid hb
 obtain ⟨d0, d1, d2, d3, -⟩ := HBX.out w2 hb
 clear hb hW1 CF1
 go_wp2_with fail
 refine (CF2.out _ (below_keep HB1.out HB2.out)).mono ?_
 rintro e w3 ⟨rfl, hb⟩
 have HB3 := Lib.hid (below_keep HB2.out hb)
 have HS3 : Hid (w.heap.size + 3 ≤ w3.heap.size) := by have := HB3.out.size; have := HS1.out; show _ ≤ _; omega
 obtain ⟨d0, d1, d2, d3, -⟩ := HBX.out w3 HB3.out
 have HBN : Hid (BoxO w3.heap.size w3.heap.size (w3.alloc (.cells #[.slice none 0 0, .slice none 0 0] 26)) (.slice none 0 0) (.slice none 0 0) [] []) :=
  ⟨ResB.made w3 _, World.ownsRow_nil _ _ _ _, World.ownsRow_nil _ _ _ _, (fun b hb => by cases hb), ⟨_, (0, 0), World.alloc_heap_new w3 _⟩⟩
 have hq : w.heap.size < w3.heap.size := by have := HS3.out; omega
 have hq' : w.heap.size ≠ w3.heap.size := Nat.ne_of_lt hq
 have hq1 : w.heap.size + 1 < w3.heap.size := by have := HS3.out; omega
 have hq1' : w.heap.size + 1 ≠ w3.heap.size := Nat.ne_of_lt hq1
 clear hb CF2
 go_wp2
 clear d0 d1 d2 d3 hq hq' hq1 hq1'
 go_loopw [31] (fun iv wr => ∃ (i : Nat) (v1 v2 : Value) (lo hi : List Int), i ≤ al.length ∧ iv = .int .i64 (i : Nat) ∧ Hid (lo.length = i ∧ hi.length = i) ∧ Hid (interL lo hi (al.drop i) (ah.drop i) (bl.drop i) (bh.drop i) = R9) ∧ BoxO w3.heap.size w3.heap.size wr v1 v2 lo hi ∧ Below w3.heap.size w3 wr) (fun iv _ => al.length - (intOf iv).toNat)
 case atStart => exact ⟨0, _, _, [], [], Nat.zero_le _, rfl, ⟨rfl, rfl⟩, HR9.out.symm, HBN.out, below_alloc _ _⟩
 case round =>
  obtain ⟨i, v1, v2, lo, hi, hi', rfl, HLN, HN, hbo, hb⟩ := hrel
  have HBO := Lib.hid hbo
  have HBR := Lib.hid hb
  have HBX3 := Lib.hid (HBX.out wr (below_keep HB3.out hb))
  have HBW := Lib.hid (below_keep HB1.out (below_keep HB3.out hb))
  clear hbo hb
  by_cases hlt : i < al.length
  ·obtain ⟨g1, o1, x1, e1, hx1, hr1⟩ := (HA1.out.later IntR.lasts HBW.out).at i hlt
   obtain ⟨g2, o2, x2, e2, hx2, hr2⟩ := Ls.at (n := al.length) (HA2.out.later IntR.lasts HBW.out) i (by rw [HLA.out]; exact hlt)
   obtain ⟨g3, o3, x3, e3, hx3, hr3⟩ := Ls.at (n := al.length) (HA3.out.later IntR.lasts HBW.out) i (by rw [HLB.out]; exact hlt)
   obtain ⟨g4, o4, x4, e4, hx4, hr4⟩ := Ls.at (n := al.length) (HA4.out.later IntR.lasts HBW.out) i (by rw [HLC.out]; exact hlt)
   subst e1 e2 e3 e4
   rw [Nat.mul_one] at hr1 hr2 hr3 hr4
   unfold IntR at hr1 hr2 hr3 hr4
   have hn := HN.out
   rw [interL_drop hx1 hx2 hx3 hx4] at hn
   have HI1 : Hid (i + 1 ≤ al.length) := hlt
   have HI2 : Hid (al.length - (i + 1) < al.length - i) := by show _ < _; omega
   have ib0 : (0 : Int) ≤ (i : Int) := by omega
   have ib1 : (i : Int) < (al.length : Int) := by omega
   obtain ⟨d0, d1, d2, d3, -⟩ := HBX3.out
   obtain ⟨G, hG⟩ : ∃ G, G = if (1073741825 : Int) < (if x4 < x2 then x4 else x2) then 1073741825 else if x4 < x2 then x4 else x2 := ⟨_, rfl⟩
   obtain ⟨F, hF⟩ : ∃ F, F = max x1 x3 := ⟨_, rfl⟩
   have hG' : min3 x2 x4 = G := hG.symm
   rw [hG', ← hF] at hn
   have HNN := Lib.hid hn
   have HG := Lib.hid hG
   have HF := Lib.hid hF
   have CU := Lib.hid (fun w1 => upTo_any F G w1)
   obtain ⟨U, hU⟩ : ∃ U, U = upB F G := ⟨_, rfl⟩
   rw [← hU] at CU HNN
   clear hx1 hx2 hx3 hx4 hn HN hU hG hF hG'
   go_wp2_with fail
   go_quiet (fail)
   rw [← HG.out, ← HF.out]
   have HBQ := Lib.hid (below_drewN' wr nq)
   have HBXQ := Lib.hid (HBX.out (wr.drewN nq) (below_keep HB3.out (below_keep HBR.out HBQ.out)))
   clear d0 d1 d2 d3 hr1 hr2 hr3 hr4
   go_wp2_with fail
   refine (CU.out _).mono ?_
   rintro e w5 ⟨rfl, rfl⟩
   cases U with
   | false =>
    have HE : Hid (R9 = none) := by have := HNN.out; rw [if_neg (by decide)] at this; exact this.symm
    obtain ⟨-, -, -, -, ⟨r0, r1, r2, r3⟩⟩ := HBXQ.out
    go_wp2
    refine bodyPost_ret (by simp [results, Tryz.results23, go_sem, r0, r1]; try rfl) rfl ?_
    rw [HE.out]
    exact ⟨_, _, rfl, IntsO.nil _, IntsO.nil _, ((below_keep HBW.out HBQ.out).setCell (by simp <;> omega) _).setCell (by simp <;> omega) _⟩
   | true =>
    have hE := HNN.out
    rw [if_pos rfl] at hE
    have HE := Lib.hid hE
    obtain ⟨Wd, hWd⟩ : ∃ Wd, Wd = wr.drewN nq := ⟨_, rfl⟩
    rw [← hWd] at HBQ HBXQ ⊢
    have HB0 : Hid (BoxA w3.heap.size w3.heap.size Wd v1 v2 v1 v2 lo hi) := (BoxA.of HBO.out).later HBQ.out
    have HBC := Lib.hid (HBR.out.trans (HBQ.out.mono HBR.out.size))
    have HNX : Hid (∀ wx, Below w3.heap.size Wd wx → w3.heap.size ≤ wx.heap.size) := fun wx h => Nat.le_trans HBC.out.size h.size
    have HSZ : Hid (∀ wx, Below w3.heap.size Wd wx → w3.heap.size < wx.heap.size) := fun wx h => Nat.lt_of_lt_of_le HB0.out.tag.lt h.size
    have HV1 : Hid (∀ wx, Below w3.heap.size Wd wx → v1.ownBlock ≠ some wx.heap.size) := fun wx h e => by
     have := (HB0.out.own1.lt _ e).2
     have := h.size
     omega
    have HGN : Hid (w3.heap.size ≤ w3.heap.size) := Nat.le_refl _
    have hll : lo.length ≤ 900 := by have := HLN.out.1; omega
    have hlh : hi.length ≤ 900 := by have := HLN.out.2; omega
    clear hE hWd HNN
    go_wp2
    refine wp_region_inv [some 61, some 62, some 63, some 64, some 65, some 66, some 67, some 68, some 69, some 70, some 71, none, some 72, none] (HmJ w3.heap.size w3.heap.size Wd v1 v2 lo hi F G) rfl (by kernel_rfl) (by kernel_rfl) (by kernel_rfl) (by kernel_rfl) ?_ ?_ ?_
    ·exact { below := (Below.refl _ _).drew, res := fun _ _ => (HB0.out.later (Below.refl _ _).drew).res, s0 := fun _ => HB0.out.later (Below.refl _ _).drew, s1 := fun h _ => Bool.noConfusion h, s2 := fun h _ => Bool.noConfusion h, s3 := fun h _ => Bool.noConfusion h, s4 := fun h => Bool.noConfusion h, f0 := fun h => Bool.noConfusion h, f1 := fun h => Bool.noConfusion h, f2 := fun h => Bool.noConfusion h, f3 := fun h _ => Bool.noConfusion h, f4 := fun h => Bool.noConfusion h, f5 := fun h => Bool.noConfusion h, f6 := fun h => Bool.noConfusion h, f7 := fun h => Bool.noConfusion h, f8 := fun h _ => Bool.noConfusion h, f9 := fun h => Bool.noConfusion h, f10 := fun h => Bool.noConfusion h, f12 := fun h => Bool.noConfusion h }
    ·intro i9 op9 ho
     have hi9 : i9 < 14 := (Array.getElem?_eq_some_iff.1 ho).1
     match i9, hi9 with
     | 0, _ =>
      obtain rfl := Option.some.inj ho
      intro a9 dn vals wx hJ0 hdi hde hdj hev hsl hun
      have hJ := Lib.hid hJ0
      rw [if_pos (wanted_none rfl)]
      have f6 : (a9.tmps[6]?).getD undef = .pointer (some ⟨w3.heap.size, 0, none⟩) := hev 6 (by kernel_rfl)
      clear hde hdj hev hsl hun hJ0 hdi
      go_simp
      exact { below := hJ.out.below, res := fun h h2 => hJ.out.res h h2, s0 := fun h => hJ.out.s0 h, s1 := fun h h2 => hJ.out.s1 h h2, s2 := fun h h2 => hJ.out.s2 h h2, s3 := fun h h2 => hJ.out.s3 h h2, s4 := fun h => hJ.out.s4 h, f0 := fun _ => rfl, f1 := fun h => hJ.out.f1 h, f2 := fun h => hJ.out.f2 h, f3 := fun h h2 => hJ.out.f3 h h2, f4 := fun h => hJ.out.f4 h, f5 := fun h => hJ.out.f5 h, f6 := fun h => hJ.out.f6 h, f7 := fun h => hJ.out.f7 h, f8 := fun h h2 => hJ.out.f8 h h2, f9 := fun h => hJ.out.f9 h, f10 := fun h => hJ.out.f10 h, f12 := fun h => hJ.out.f12 h }
     | 1, _ =>
      obtain rfl := Option.some.inj ho
      intro a9 dn vals wx hJ0 hdi hde hdj hev hsl hun
      have hJ := Lib.hid hJ0
      rw [if_pos (wanted_none rfl)]
      have f61 : (a9.tmps[61]?).getD undef = .pointer (some ⟨w3.heap.size, 0, none⟩) := (hsl 0 61 (hde 0 _ rfl rfl) rfl).trans (hJ.out.f0 (hde 0 _ rfl rfl))
      have n4 : Hid (dn 4 = false) := hdj 4 0 _ _ rfl rfl rfl rfl
      obtain ⟨k0, k1, k2, k3⟩ := (hJ.out.s0 n4.out).res
      clear hde hdj hev hsl hun hJ0 hdi
      clear n4
      go_simp
      exact { below := hJ.out.below, res := fun h h2 => hJ.out.res h h2, s0 := fun h => hJ.out.s0 h, s1 := fun h h2 => hJ.out.s1 h h2, s2 := fun h h2 => hJ.out.s2 h h2, s3 := fun h h2 => hJ.out.s3 h h2, s4 := fun h => hJ.out.s4 h, f0 := fun h => hJ.out.f0 h, f1 := fun _ => rfl, f2 := fun h => hJ.out.f2 h, f3 := fun h h2 => hJ.out.f3 h h2, f4 := fun h => hJ.out.f4 h, f5 := fun h => hJ.out.f5 h, f6 := fun h => hJ.out.f6 h, f7 := fun h => hJ.out.f7 h, f8 := fun h h2 => hJ.out.f8 h h2, f9 := fun h => hJ.out.f9 h, f10 := fun h => hJ.out.f10 h, f12 := fun h => hJ.out.f12 h }
     | 2, _ =>
      obtain rfl := Option.some.inj ho
      intro a9 dn vals wx hJ0 hdi hde hdj hev hsl hun
      have hJ := Lib.hid hJ0
      rw [if_pos (wanted_none rfl)]
      have f8 : (a9.tmps[8]?).getD undef = .int .i64 F := hev 8 (by kernel_rfl)
      clear hde hdj hev hsl hun hJ0 hdi
      go_simp
      exact { below := hJ.out.below, res := fun h h2 => hJ.out.res h h2, s0 := fun h => hJ.out.s0 h, s1 := fun h h2 => hJ.out.s1 h h2, s2 := fun h h2 => hJ.out.s2 h h2, s3 := fun h h2 => hJ.out.s3 h h2, s4 := fun h => hJ.out.s4 h, f0 := fun h => hJ.out.f0 h, f1 := fun h => hJ.out.f1 h, f2 := fun _ => rfl, f3 := fun h h2 => hJ.out.f3 h h2, f4 := fun h => hJ.out.f4 h, f5 := fun h => hJ.out.f5 h, f6 := fun h => hJ.out.f6 h, f7 := fun h => hJ.out.f7 h, f8 := fun h h2 => hJ.out.f8 h h2, f9 := fun h => hJ.out.f9 h, f10 := fun h => hJ.out.f10 h, f12 := fun h => hJ.out.f12 h }
     | 3, _ =>
      obtain rfl := Option.some.inj ho
      intro a9 dn vals wx hJ0 hdi hde hdj hev hsl hun
      have hJ := Lib.hid hJ0
      rw [if_pos (wanted_none rfl)]
      have f63 : (a9.tmps[63]?).getD undef = .int .i64 F := (hsl 2 63 (hde 0 _ rfl rfl) rfl).trans (hJ.out.f2 (hde 0 _ rfl rfl))
      have HLT : Hid (w3.heap.size < wx.heap.size) := HSZ.out wx hJ.out.below
      clear hde hdj hev hsl hun hJ0 hdi
      go_simp
      exact { below := (hJ.out.below.trans (((below_alloc _ _)).mono (HNX.out wx hJ.out.below))), res := fun h h2 => (hJ.out.res h h2).later (below_alloc _ _) HLT.out, s0 := fun h => (hJ.out.s0 h).later (below_alloc _ _), s1 := fun h h2 => (hJ.out.s1 h h2).later (below_alloc _ _), s2 := fun h h2 => (hJ.out.s2 h h2).later (below_alloc _ _), s3 := fun h h2 => (hJ.out.s3 h h2).later (below_alloc _ _), s4 := fun h => (hJ.out.s4 h).later (below_alloc _ _), f0 := fun h => hJ.out.f0 h, f1 := fun h => hJ.out.f1 h, f2 := fun h => hJ.out.f2 h, f3 := fun _ _ => ⟨wx.heap.size, rfl, by rw [World.cell?_alloc_at _ _ _ _ rfl]; rfl⟩, f4 := fun h => hJ.out.f4 h, f5 := fun h => hJ.out.f5 h, f6 := fun h => hJ.out.f6 h, f7 := fun h => hJ.out.f7 h, f8 := fun h h2 => let ⟨q, q1, q2, q3⟩ := hJ.out.f8 h h2; ⟨q, q1, cell_later q2 (below_alloc _ _), q3⟩, f9 := fun h => hJ.out.f9 h, f10 := fun h => hJ.out.f10 h, f12 := fun h => hJ.out.f12 h }
     | 4, _ =>
      obtain rfl := Option.some.inj ho
      intro a9 dn vals wx hJ0 hdi hde hdj hev hsl hun
      have hJ := Lib.hid hJ0
      rw [if_pos (wanted_none rfl)]
      have f62 : (a9.tmps[62]?).getD undef = v1 := (hsl 1 62 (hde 0 _ rfl rfl) rfl).trans (hJ.out.f1 (hde 0 _ rfl rfl))
      obtain ⟨b3, e3, q3⟩ := hJ.out.f3 (hde 1 _ rfl rfl) hdi
      have f64 : (a9.tmps[64]?).getD undef = .slice (some ⟨b3, 0, none⟩) 1 1 := (hsl 3 64 (hde 1 _ rfl rfl) rfl).trans e3
      have n9 : Hid (dn 9 = false) := hdj 9 2 _ _ rfl rfl rfl rfl
      have n11 : Hid (dn 11 = false) := hdj 11 1 _ _ rfl rfl rfl rfl
      have n13 : Hid (dn 13 = false) := hdj 13 7 _ _ rfl rfl rfl rfl
      have hS := hJ.out.s0 hdi
      obtain ⟨g9, cap9, w9, hrun, hown, hgr, hat, hlt9⟩ := run_append_lies (P := Tryz.prog) (w := wx) 24 24 w3.heap.size 3 i0 (.int .i64 0) 1 8 Tryz.underlying24 hi0 hz0 hz1 hz2 rfl (by decide) v1 lo.length _ hS.own1 ⟨b3, 0, none⟩ 1 1 [.int .i64 F] rfl (fun j u hj => by
       match j, hj with
       | 0, hj => simp at hj; subst hj; exact q3) (fun u hu => by simp at hu; subst hu; rfl) (by decide) (by unfold maxLen; omega) (by omega) (HNX.out wx hJ.out.below) _ rfl
      have hS2 := hS.app1 (by decide) hown hgr hat
      have HB2 : Hid (Below w3.heap.size Wd w9) := hJ.out.below.grown hgr (HNX.out wx hJ.out.below) (fun k e => (hS.own1.lt k e).1)
      have HRUN := Lib.hid hrun
      have HS2 := Lib.hid hS2
      have HGR := Lib.hid hgr
      clear hde hdj hev hsl hun hJ0 hdi
      clear hrun hown hgr hat hlt9 hS hS2 q3 e3
      refine does_append2 (s := .tmp 62) (x := .tmp 64) (T := 24) rfl (by rw [eval_tmp]; exact f62) (by rw [eval_tmp]; exact f64) HRUN.out ?_
      exact { below := HB2.out, res := fun _ _ => HS2.out.res, s0 := fun h => Bool.noConfusion h, s1 := fun _ _ => HS2.out, s2 := fun h _ => Bool.noConfusion ((show dn 9 = true from h).symm.trans n9.out), s3 := fun h _ => Bool.noConfusion ((show dn 11 = true from h).symm.trans n11.out), s4 := fun h => Bool.noConfusion ((show dn 13 = true from h).symm.trans n13.out), f0 := fun h => hJ.out.f0 h, f1 := fun h => hJ.out.f1 h, f2 := fun h => hJ.out.f2 h, f3 := fun _ h => Bool.noConfusion h, f4 := fun _ => ⟨_, _, rfl⟩, f5 := fun h => hJ.out.f5 h, f6 := fun h => hJ.out.f6 h, f7 := fun h => hJ.out.f7 h, f8 := fun h h2 => let ⟨q, q1, q2, q3⟩ := hJ.out.f8 h h2; ⟨q, q1, HGR.out.cell q2 (fun e => q3 e.symm), q3⟩, f9 := fun h => hJ.out.f9 h, f10 := fun h => hJ.out.f10 h, f12 := fun h => hJ.out.f12 h }
     | 5, _ =>
      obtain rfl := Option.some.inj ho
      intro a9 dn vals wx hJ0 hdi hde hdj hev hsl hun
      have hJ := Lib.hid hJ0
      rw [if_pos (wanted_none rfl)]
      have f6 : (a9.tmps[6]?).getD undef = .pointer (some ⟨w3.heap.size, 0, none⟩) := hev 6 (by kernel_rfl)
      clear hde hdj hev hsl hun hJ0 hdi
      go_simp
      exact { below := hJ.out.below, res := fun h h2 => hJ.out.res h h2, s0 := fun h => hJ.out.s0 h, s1 := fun h h2 => hJ.out.s1 h h2, s2 := fun h h2 => hJ.out.s2 h h2, s3 := fun h h2 => hJ.out.s3 h h2, s4 := fun h => hJ.out.s4 h, f0 := fun h => hJ.out.f0 h, f1 := fun h => hJ.out.f1 h, f2 := fun h => hJ.out.f2 h, f3 := fun h h2 => hJ.out.f3 h h2, f4 := fun h => hJ.out.f4 h, f5 := fun _ => rfl, f6 := fun h => hJ.out.f6 h, f7 := fun h => hJ.out.f7 h, f8 := fun h h2 => hJ.out.f8 h h2, f9 := fun h => hJ.out.f9 h, f10 := fun h => hJ.out.f10 h, f12 := fun h => hJ.out.f12 h }
     | 6, _ =>
      obtain rfl := Option.some.inj ho
      intro a9 dn vals wx hJ0 hdi hde hdj hev hsl hun
      have hJ := Lib.hid hJ0
      rw [if_pos (wanted_none rfl)]
      have f66 : (a9.tmps[66]?).getD undef = .pointer (some ⟨w3.heap.size, 1, none⟩) := (hsl 5 66 (hde 0 _ rfl rfl) rfl).trans (hJ.out.f5 (hde 0 _ rfl rfl))
      have n11 : Hid (dn 11 = false) := hdj 11 9 _ _ rfl rfl rfl rfl
      have n13 : Hid (dn 13 = false) := hdj 13 9 _ _ rfl rfl rfl rfl
      obtain ⟨k0, k1, k2, k3⟩ := hJ.out.res n11.out n13.out
      clear hde hdj hev hsl hun hJ0 hdi
      clear n11 n13
      go_simp
      exact { below := hJ.out.below, res := fun h h2 => hJ.out.res h h2, s0 := fun h => hJ.out.s0 h, s1 := fun h h2 => hJ.out.s1 h h2, s2 := fun h h2 => hJ.out.s2 h h2, s3 := fun h h2 => hJ.out.s3 h h2, s4 := fun h => hJ.out.s4 h, f0 := fun h => hJ.out.f0 h, f1 := fun h => hJ.out.f1 h, f2 := fun h => hJ.out.f2 h, f3 := fun h h2 => hJ.out.f3 h h2, f4 := fun h => hJ.out.f4 h, f5 := fun h => hJ.out.f5 h, f6 := fun _ => rfl, f7 := fun h => hJ.out.f7 h, f8 := fun h h2 => hJ.out.f8 h h2, f9 := fun h => hJ.out.f9 h, f10 := fun h => hJ.out.f10 h, f12 := fun h => hJ.out.f12 h }
     | 7, _ =>
      obtain rfl := Option.some.inj ho
      intro a9 dn vals wx hJ0 hdi hde hdj hev hsl hun
      have hJ := Lib.hid hJ0
      rw [if_pos (wanted_none rfl)]
      have f9 : (a9.tmps[9]?).getD undef = .int .i64 G := hev 9 (by kernel_rfl)
      clear hde hdj hev hsl hun hJ0 hdi
      go_simp
      exact { below := hJ.out.below, res := fun h h2 => hJ.out.res h h2, s0 := fun h => hJ.out.s0 h, s1 := fun h h2 => hJ.out.s1 h h2, s2 := fun h h2 => hJ.out.s2 h h2, s3 := fun h h2 => hJ.out.s3 h h2, s4 := fun h => hJ.out.s4 h, f0 := fun h => hJ.out.f0 h, f1 := fun h => hJ.out.f1 h, f2 := fun h => hJ.out.f2 h, f3 := fun h h2 => hJ.out.f3 h h2, f4 := fun h => hJ.out.f4 h, f5 := fun h => hJ.out.f5 h, f6 := fun h => hJ.out.f6 h, f7 := fun _ => rfl, f8 := fun h h2 => hJ.out.f8 h h2, f9 := fun h => hJ.out.f9 h, f10 := fun h => hJ.out.f10 h, f12 := fun h => hJ.out.f12 h }
     | 8, _ =>
      obtain rfl := Option.some.inj ho
      intro a9 dn vals wx hJ0 hdi hde hdj hev hsl hun
      have hJ := Lib.hid hJ0
      rw [if_pos (wanted_none rfl)]
      have f68 : (a9.tmps[68]?).getD undef = .int .i64 G := (hsl 7 68 (hde 0 _ rfl rfl) rfl).trans (hJ.out.f7 (hde 0 _ rfl rfl))
      have HLT : Hid (w3.heap.size < wx.heap.size) := HSZ.out wx hJ.out.below
      clear hde hdj hev hsl hun hJ0 hdi
      go_simp
      exact { below := (hJ.out.below.trans (((below_alloc _ _)).mono (HNX.out wx hJ.out.below))), res := fun h h2 => (hJ.out.res h h2).later (below_alloc _ _) HLT.out, s0 := fun h => (hJ.out.s0 h).later (below_alloc _ _), s1 := fun h h2 => (hJ.out.s1 h h2).later (below_alloc _ _), s2 := fun h h2 => (hJ.out.s2 h h2).later (below_alloc _ _), s3 := fun h h2 => (hJ.out.s3 h h2).later (below_alloc _ _), s4 := fun h => (hJ.out.s4 h).later (below_alloc _ _), f0 := fun h => hJ.out.f0 h, f1 := fun h => hJ.out.f1 h, f2 := fun h => hJ.out.f2 h, f3 := fun h h2 => let ⟨q, q1, q2⟩ := hJ.out.f3 h h2; ⟨q, q1, cell_later q2 (below_alloc _ _)⟩, f4 := fun h => hJ.out.f4 h, f5 := fun h => hJ.out.f5 h, f6 := fun h => hJ.out.f6 h, f7 := fun h => hJ.out.f7 h, f8 := fun _ _ => ⟨wx.heap.size, rfl, by rw [World.cell?_alloc_at _ _ _ _ rfl]; rfl, HV1.out wx hJ.out.below⟩, f9 := fun h => hJ.out.f9 h, f10 := fun h => hJ.out.f10 h, f12 := fun h => hJ.out.f12 h }
     | 9, _ =>
      obtain rfl := Option.some.inj ho
      intro a9 dn vals wx hJ0 hdi hde hdj hev hsl hun
      have hJ := Lib.hid hJ0
      rw [if_pos (wanted_none rfl)]
      have f67 : (a9.tmps[67]?).getD undef = v2 := (hsl 6 67 (hde 0 _ rfl rfl) rfl).trans (hJ.out.f6 (hde 0 _ rfl rfl))
      obtain ⟨b8, e8, q8, k8⟩ := hJ.out.f8 (hde 1 _ rfl rfl) hdi
      have f69 : (a9.tmps[69]?).getD undef = .slice (some ⟨b8, 0, none⟩) 1 1 := (hsl 8 69 (hde 1 _ rfl rfl) rfl).trans e8
      have d4 : Hid (dn 4 = true) := hde 2 _ rfl rfl
      have n11 : Hid (dn 11 = false) := hdj 11 2 _ _ rfl rfl rfl rfl
      have n13 : Hid (dn 13 = false) := hdj 13 1 _ _ rfl rfl rfl rfl
      have hS := hJ.out.s1 d4.out hdi
      obtain ⟨g9, cap9, w9, hrun, hown, hgr, hat, hlt9⟩ := run_append_lies (P := Tryz.prog) (w := wx) 24 24 w3.heap.size 3 i0 (.int .i64 0) 1 8 Tryz.underlying24 hi0 hz0 hz1 hz2 rfl (by decide) v2 hi.length _ hS.own2 ⟨b8, 0, none⟩ 1 1 [.int .i64 G] rfl (fun j u hj => by
       match j, hj with
       | 0, hj => simp at hj; subst hj; exact q8) (fun u hu => by simp at hu; subst hu; rfl) (by decide) (by unfold maxLen; omega) (by omega) (HNX.out wx hJ.out.below) _ rfl
      have hS2 := hS.app2 (by decide) hown hgr hat
      have HB2 : Hid (Below w3.heap.size Wd w9) := hJ.out.below.grown hgr (HNX.out wx hJ.out.below) (fun k e => (hS.own2.lt k e).1)
      have HRUN := Lib.hid hrun
      have HS2 := Lib.hid hS2
      clear hde hdj hev hsl hun hJ0 hdi
      clear hrun hown hgr hat hlt9 hS hS2 q8 e8 k8
      refine does_append2 (s := .tmp 67) (x := .tmp 69) (T := 24) rfl (by rw [eval_tmp]; exact f67) (by rw [eval_tmp]; exact f69) HRUN.out ?_
      exact { below := HB2.out, res := fun _ _ => HS2.out.res, s0 := fun h => Bool.noConfusion ((show dn 4 = false from h).symm.trans d4.out), s1 := fun _ h => Bool.noConfusion h, s2 := fun _ _ => HS2.out, s3 := fun h _ => Bool.noConfusion ((show dn 11 = true from h).symm.trans n11.out), s4 := fun h => Bool.noConfusion ((show dn 13 = true from h).symm.trans n13.out), f0 := fun h => hJ.out.f0 h, f1 := fun h => hJ.out.f1 h, f2 := fun h => hJ.out.f2 h, f3 := fun _ h => Bool.noConfusion ((show dn 4 = false from h).symm.trans d4.out), f4 := fun h => hJ.out.f4 h, f5 := fun h => hJ.out.f5 h, f6 := fun h => hJ.out.f6 h, f7 := fun h => hJ.out.f7 h, f8 := fun _ h => Bool.noConfusion h, f9 := fun _ => ⟨_, _, rfl⟩, f10 := fun h => hJ.out.f10 h, f12 := fun h => hJ.out.f12 h }
     | 10, _ =>
      obtain rfl := Option.some.inj ho
      intro a9 dn vals wx hJ0 hdi hde hdj hev hsl hun
      have hJ := Lib.hid hJ0
      rw [if_pos (wanted_none rfl)]
      have f6 : (a9.tmps[6]?).getD undef = .pointer (some ⟨w3.heap.size, 0, none⟩) := hev 6 (by kernel_rfl)
      clear hde hdj hev hsl hun hJ0 hdi
      go_simp
      exact { below := hJ.out.below, res := fun h h2 => hJ.out.res h h2, s0 := fun h => hJ.out.s0 h, s1 := fun h h2 => hJ.out.s1 h h2, s2 := fun h h2 => hJ.out.s2 h h2, s3 := fun h h2 => hJ.out.s3 h h2, s4 := fun h => hJ.out.s4 h, f0 := fun h => hJ.out.f0 h, f1 := fun h => hJ.out.f1 h, f2 := fun h => hJ.out.f2 h, f3 := fun h h2 => hJ.out.f3 h h2, f4 := fun h => hJ.out.f4 h, f5 := fun h => hJ.out.f5 h, f6 := fun h => hJ.out.f6 h, f7 := fun h => hJ.out.f7 h, f8 := fun h h2 => hJ.out.f8 h h2, f9 := fun h => hJ.out.f9 h, f10 := fun _ => rfl, f12 := fun h => hJ.out.f12 h }
     | 11, _ =>
      obtain rfl := Option.some.inj ho
      intro a9 dn vals wx hJ0 hdi hde hdj hev hsl hun
      have hJ := Lib.hid hJ0
      rw [if_pos (wanted_none rfl)]
      have f71 : (a9.tmps[71]?).getD undef = .pointer (some ⟨w3.heap.size, 0, none⟩) := (hsl 10 71 (hde 0 _ rfl rfl) rfl).trans (hJ.out.f10 (hde 0 _ rfl rfl))
      obtain ⟨b4, cp4, e4⟩ := hJ.out.f4 (hde 1 _ rfl rfl)
      have f65 : (a9.tmps[65]?).getD undef = .slice (some ⟨b4, 0, none⟩) (lo.length + 1) cp4 := (hsl 4 65 (hde 1 _ rfl rfl) rfl).trans e4
      have d4 : Hid (dn 4 = true) := hde 1 _ rfl rfl
      have d9 : Hid (dn 9 = true) := hde 2 _ rfl rfl
      have n13 : Hid (dn 13 = false) := hdj 13 2 _ _ rfl rfl rfl rfl
      have hS := hJ.out.s2 d9.out hdi
      obtain ⟨k0, k1, k2, k3⟩ := hS.res
      have hS2 := hS.st1 (by decide)
      rw [e4] at hS2
      have HS2 := Lib.hid hS2
      have E4 := Lib.hid e4
      have HB2 : Hid (Below w3.heap.size Wd (wx.setCell ⟨w3.heap.size, 0, none⟩ (.slice (some ⟨b4, 0, none⟩) (lo.length + 1) cp4))) := hJ.out.below.setCell (p := ⟨w3.heap.size, 0, none⟩) HGN.out _
      clear hde hdj hev hsl hun hJ0 hdi
      clear hS hS2 e4
      go_simp
      exact { below := HB2.out, res := fun h _ => Bool.noConfusion h, s0 := fun h => Bool.noConfusion ((show dn 4 = false from h).symm.trans d4.out), s1 := fun _ h => Bool.noConfusion ((show dn 9 = false from h).symm.trans d9.out), s2 := fun _ h => Bool.noConfusion h, s3 := fun _ _ => by show BoxA _ _ _ (vals 4) _ (vals 4) (vals 9) _ _; rw [E4.out]; exact HS2.out, s4 := fun h => Bool.noConfusion ((show dn 13 = true from h).symm.trans n13.out), f0 := fun h => hJ.out.f0 h, f1 := fun h => hJ.out.f1 h, f2 := fun h => hJ.out.f2 h, f3 := fun _ h => Bool.noConfusion ((show dn 4 = false from h).symm.trans d4.out), f4 := fun h => hJ.out.f4 h, f5 := fun h => hJ.out.f5 h, f6 := fun h => hJ.out.f6 h, f7 := fun h => hJ.out.f7 h, f8 := fun _ h => Bool.noConfusion ((show dn 9 = false from h).symm.trans d9.out), f9 := fun h => hJ.out.f9 h, f10 := fun h => hJ.out.f10 h, f12 := fun h => hJ.out.f12 h }
     | 12, _ =>
      obtain rfl := Option.some.inj ho
      intro a9 dn vals wx hJ0 hdi hde hdj hev hsl hun
      have hJ := Lib.hid hJ0
      rw [if_pos (wanted_none rfl)]
      have f6 : (a9.tmps[6]?).getD undef = .pointer (some ⟨w3.heap.size, 0, none⟩) := hev 6 (by kernel_rfl)
      clear hde hdj hev hsl hun hJ0 hdi
      go_simp
      exact { below := hJ.out.below, res := fun h h2 => hJ.out.res h h2, s0 := fun h => hJ.out.s0 h, s1 := fun h h2 => hJ.out.s1 h h2, s2 := fun h h2 => hJ.out.s2 h h2, s3 := fun h h2 => hJ.out.s3 h h2, s4 := fun h => hJ.out.s4 h, f0 := fun h => hJ.out.f0 h, f1 := fun h => hJ.out.f1 h, f2 := fun h => hJ.out.f2 h, f3 := fun h h2 => hJ.out.f3 h h2, f4 := fun h => hJ.out.f4 h, f5 := fun h => hJ.out.f5 h, f6 := fun h => hJ.out.f6 h, f7 := fun h => hJ.out.f7 h, f8 := fun h h2 => hJ.out.f8 h h2, f9 := fun h => hJ.out.f9 h, f10 := fun h => hJ.out.f10 h, f12 := fun _ => rfl }
     | 13, _ =>
      obtain rfl := Option.some.inj ho
      intro a9 dn vals wx hJ0 hdi hde hdj hev hsl hun
      have hJ := Lib.hid hJ0
      rw [if_pos (wanted_none rfl)]
      have f72 : (a9.tmps[72]?).getD undef = .pointer (some ⟨w3.heap.size, 1, none⟩) := (hsl 12 72 (hde 0 _ rfl rfl) rfl).trans (hJ.out.f12 (hde 0 _ rfl rfl))
      obtain ⟨b9, cp9, e9⟩ := hJ.out.f9 (hde 1 _ rfl rfl)
      have f70 : (a9.tmps[70]?).getD undef = .slice (some ⟨b9, 0, none⟩) (hi.length + 1) cp9 := (hsl 9 70 (hde 1 _ rfl rfl) rfl).trans e9
      have d4 : Hid (dn 4 = true) := hde 7 _ rfl rfl
      have d9 : Hid (dn 9 = true) := hde 1 _ rfl rfl
      have d11 : Hid (dn 11 = true) := hde 2 _ rfl rfl
      have hS := hJ.out.s3 d11.out hdi
      obtain ⟨k0, k1, k2, k3⟩ := hS.res
      have hS2 := hS.st2 (by decide)
      rw [e9] at hS2
      have HS2 := Lib.hid hS2
      have E9 := Lib.hid e9
      have HB2 : Hid (Below w3.heap.size Wd (wx.setCell ⟨w3.heap.size, 1, none⟩ (.slice (some ⟨b9, 0, none⟩) (hi.length + 1) cp9))) := hJ.out.below.setCell (p := ⟨w3.heap.size, 1, none⟩) HGN.out _
      obtain ⟨b4, cp4, e4⟩ := hJ.out.f4 d4.out
      rw [e4] at k0
      have E4 := Lib.hid e4
      clear hde hdj hev hsl hun hJ0 hdi
      clear hS hS2 e9 e4
      go_simp
      exact { below := HB2.out, res := fun _ h => Bool.noConfusion h, s0 := fun h => Bool.noConfusion ((show dn 4 = false from h).symm.trans d4.out), s1 := fun _ h => Bool.noConfusion ((show dn 9 = false from h).symm.trans d9.out), s2 := fun _ h => Bool.noConfusion ((show dn 11 = false from h).symm.trans d11.out), s3 := fun _ h => Bool.noConfusion h, s4 := fun _ => by show BoxA _ _ _ (vals 4) (vals 9) (vals 4) (vals 9) _ _; rw [E9.out]; exact HS2.out, f0 := fun h => hJ.out.f0 h, f1 := fun h => hJ.out.f1 h, f2 := fun h => hJ.out.f2 h, f3 := fun _ h => Bool.noConfusion ((show dn 4 = false from h).symm.trans d4.out), f4 := fun h => hJ.out.f4 h, f5 := fun h => hJ.out.f5 h, f6 := fun h => hJ.out.f6 h, f7 := fun h => hJ.out.f7 h, f8 := fun _ h => Bool.noConfusion ((show dn 9 = false from h).symm.trans d9.out), f9 := fun h => hJ.out.f9 h, f10 := fun h => hJ.out.f10 h, f12 := fun h => hJ.out.f12 h }
    ·intro dn vals wx hall hJ
     have hS := hJ.s4 (hall 13 (by decide))
     have g0 := hJ.f0 (hall 0 (by decide))
     have g1 := hJ.f1 (hall 1 (by decide))
     have g2 := hJ.f2 (hall 2 (by decide))
     have g5 := hJ.f5 (hall 5 (by decide))
     have g6 := hJ.f6 (hall 6 (by decide))
     have g7 := hJ.f7 (hall 7 (by decide))
     have g10 := hJ.f10 (hall 10 (by decide))
     have g12 := hJ.f12 (hall 12 (by decide))
     obtain ⟨b4, cp4, g4⟩ := hJ.f4 (hall 4 (by decide))
     obtain ⟨b9, cp9, g9⟩ := hJ.f9 (hall 9 (by decide))
     rw [g4, g9] at hS
     have HS9 := Lib.hid hS.to
     have HB9 := Lib.hid hJ.below
     simp only [putDs, Act.put, Nat.zero_add, Nat.reduceAdd, List.setIfInBounds_toArray, List.set_cons_succ, List.set_cons_zero, g0, g1, g2, g4, g5, g6, g7, g9, g10, g12]
     clear g0 g1 g2 g4 g5 g6 g7 g9 g10 g12 hS hJ hall
     have HB5 := Lib.hid (HBC.out.trans HB9.out)
     go_wp2
     refine ⟨⟨i + 1, _, _, _, _, HI1.out, by go_num, ?_, HE.out, HS9.out, HB5.out⟩, HI2.out⟩
     exact ⟨by rw [List.length_append, HLN.out.1]; rfl, by rw [List.length_append, HLN.out.2]; rfl⟩
  ·obtain rfl : i = al.length := by omega
   have hn := HN.out
   rw [List.drop_length, interL] at hn
   ·have HWS : Hid (R9 = some (lo, hi)) := hn.symm
    obtain ⟨⟨f0, f1, f2, f3⟩, ow1, ow2, hap, htg⟩ := HBO.out
    obtain ⟨-, -, -, -, ⟨r0, r1, r2, r3⟩⟩ := HBX3.out
    have h1 := RowZ.append_owns ow1 rfl
    have h2 := RowZ.append_owns ow2 rfl
    have H1 := Lib.hid h1
    have H2 := Lib.hid h2
    obtain ⟨q1, k1, e1, -⟩ := h1.ints.shape
    obtain ⟨q2, k2, e2, -⟩ := h2.ints.shape
    have hlt2 : w.heap.size + 2 < wr.heap.size := World.block_lt_of_cell? _ _ r0
    have hltg : w.heap.size + 2 < w3.heap.size := by have := HS3.out; omega
    have HNG : Hid (∀ (v : Value) (n : Nat) (xs : List Value), wr.ownsRow w3.heap.size 3 1 v n xs → ∀ b, v.ownBlock = some b → b ≠ w.heap.size + 2) := fun v n xs h b hb => by
     have := (h.lt b hb).1
     omega
    have HK1 := Lib.hid (HNG.out v1 _ _ ow1)
    have HK2 := Lib.hid (HNG.out v2 _ _ ow2)
    clear hn ow1 ow2 hap htg h1 h2
    subst e1 e2
    go_wp2
    refine bodyPost_ret (by simp [results, Tryz.results23, go_sem, r0, r1]; try rfl) rfl ?_
    rw [HWS.out]
    have hk : ∀ (x : Value) (l : List Int) (u u' : Value), IntsO wr x l → (∀ b, x.ownBlock = some b → b ≠ w.heap.size + 2) → IntsO ((wr.setCell ⟨w.heap.size + 2, 0, none⟩ u).setCell ⟨w.heap.size + 2, 1, none⟩ u') x l := fun x l u u' h hne =>
     (h.grown (grown_setG wr (w.heap.size + 2) 0 u) (fun r er e2 => by cases er; exact hne _ e2 rfl)).grown (grown_setG _ (w.heap.size + 2) 1 u') (fun r er e2 => by cases er; exact hne _ e2 rfl)
    exact ⟨_, _, rfl, hk _ _ _ _ H1.out HK1.out, hk _ _ _ _ H2.out HK2.out, (HBW.out.setCell (by simp <;> omega) _).setCell (by simp <;> omega) _⟩
   ·intro a1 a2 a3 a4 a5 a6 a7 a8 h9
    cases h9
theorem inter_any (va1 va2 vb1 vb2 : Value) (al ah bl bh : List Int) (w : World) (h1 : Ints w va1 al) (h2 : Ints w va2 ah) (h3 : Ints w vb1 bl) (h4 : Ints w vb2 bh) :
  Calls Tryz.prog 23 #[.agg #[va1, va2], .agg #[vb1, vb2]] w (RetBxB (interB al ah bl bh) w) := by
 unfold interB
 by_cases h : formedB al ah = true ∧ formedB bl bh = true ∧ al.length = bl.length
 ·rw [if_pos h]
  exact inter_core va1 va2 vb1 vb2 al ah bl bh w h1 h2 h3 h4 h.1 h.2.1 h.2.2
 ·rw [if_neg h]
  refine inter_bad va1 va2 vb1 vb2 al ah bl bh w h1 h2 h3 h4 ?_
  cases hf : formedB al ah with
  | false => exact .inl rfl
  | true =>
   cases hg : formedB bl bh with
   | false => exact .inr (.inl rfl)
   | true => exact .inr (.inr fun e => h ⟨hf, hg, e⟩)
end Go.Proofs.YtkliekoheeeamaaGreatDoor
