/- The walk of SpaceHilbert. -/
import Derived.BigQuiet
import Derived.IntWalk
import Derived.Deep.AppendLies
import Derived.Deep.DeepCutAuto
import Derived.Deep.CutBlock
import Derived.Test.YtkliekoheeeamaaGreatDoorS15
import Derived.Test.YtkliekoheeeamaaGreatDoorS27
import Derived.Test.YtkliekoheeeamaaGreatDoorS28
import Derived.Test.YtkliekoheeeamaaGreatDoorS46
import Derived.Test.YtkliekoheeeamaaGreatDoorS48
namespace Go.Proofs.YtkliekoheeeamaaGreatDoor
open Go.RowKit

set_option maxHeartbeats 16000000 in
set_option maxRecDepth 100000 in
theorem spaceHilbert_any (dims bits lo : Int) (w : World) (hm : Ml w) (d0 : 0 ≤ dims) (b0 : 0 ≤ bits) (l0 : -32768 ≤ lo) (l1 : lo ≤ 32767) :
  Calls Tryz.prog 3 #[.int .u8 dims, .int .u8 bits, .int .i16 lo] w (RetV' (.bool true) w) := by
 have CW := Lib.hid (fun w1 (hb : Below w.heap.size w w1) => works_any w1 (hm.later hb))
 obtain ⟨n, hn⟩ : ∃ n : Nat, (n : Int) = 1 + dims % 4 := ⟨(1 + dims % 4).toNat, by omega⟩
 obtain ⟨k, hk⟩ : ∃ k : Nat, (k : Int) = bits % 7 := ⟨(bits % 7).toNat, by omega⟩
 have hn1 : 1 ≤ n := by omega
 have hn4 : n ≤ 4 := by omega
 have hk6 : k ≤ 6 := by omega
 obtain ⟨m, hmm⟩ : ∃ m, m = n * k := ⟨_, rfl⟩
 have hm28 : m ≤ 28 := by rw [hmm]; exact Nat.mul_le_mul hn4 (show k ≤ 7 by omega)
 have HMM := Lib.hid hmm
 have HNN := Lib.hid (And.intro hn1 (And.intro hn4 hk6))
 have HLO : Hid (-40000 ≤ lo ∧ lo ≤ 40000) := by show _ ∧ _; omega
 have td : dims.tmod 4 = dims % 4 := Int.tmod_eq_emod_of_nonneg d0
 have tb : bits.tmod 7 = bits % 7 := Int.tmod_eq_emod_of_nonneg b0
 have wm : IntKind.i64.wrap ((n : Int) * (k : Int)) = (m : Int) := by
  rw [hmm, Int.natCast_mul]
  refine IntWalk.i64_in _ ?_
  rw [← Int.natCast_mul, ← hmm]; omega
 clear hm hmm
 go_enter Tryz.func3, Tryz.ntmps3
 let KF : (Ending → World → Prop) → Exit → Act → World → Prop := bodyPost Tryz.prog Tryz.f3
 go_upto_region 1 with (fail)
 go_cut [7] (fun a wx => a = .int .i64 (n : Nat) ∧ wx = w)
 case first =>
  clear wm
  have g1 : 0 ≤ dims % 4 := by omega
  have g2 : dims % 4 ≤ 3 := by omega
  have e1 : IntKind.u8.wrap (dims % 4) = dims % 4 := by rw [IntKind.wrap_u8]; omega
  have e2 : IntKind.i64.wrap (dims % 4) = dims % 4 := IntWalk.i64_in _ (by omega)
  have e3 : IntKind.i64.wrap (1 + dims % 4) = (n : Int) := by rw [hn]; exact IntWalk.i64_in _ (by omega)
  clear hn hk tb
  go_wp2
  go_meet
  exact ⟨rfl, rfl⟩
 case rest =>
 obtain ⟨rfl, hwx⟩ := hcut
 subst hwx
 go_upto_region 2 with (fail)
 go_cut [8] (fun a wx => a = .int .i64 (k : Nat) ∧ wx = wc)
 case first =>
  clear wm
  have g1 : 0 ≤ bits % 7 := by omega
  have g2 : bits % 7 ≤ 6 := by omega
  have e1 : IntKind.u8.wrap (bits % 7) = bits % 7 := by rw [IntKind.wrap_u8]; omega
  have e2 : IntKind.i64.wrap (bits % 7) = (k : Int) := by rw [hk]; exact IntWalk.i64_in _ (by omega)
  clear hn hk td
  go_wp2
  go_meet
  exact ⟨rfl, rfl⟩
 case rest =>
 obtain ⟨rfl, hwx⟩ := hcut
 subst hwx
 clear hn hk td tb d0 b0
 obtain ⟨hn1, hn4, hk6⟩ := HNN.out
 by_cases h10 : 10 < m
 ·have t10 : (10 : Int) < (m : Int) := by omega
  go_wp2_with fail
  refine (CW.out _ (Below.refl _ _)).mono ?_
  rintro e z ⟨rfl, hb⟩
  have HBE := Lib.hid hb
  clear hb CW
  go_wp2
  go_ret
  exact ⟨rfl, HBE.out⟩
 have t10 : ¬ (10 : Int) < (m : Int) := by omega
 have H10 : Hid (m ≤ 10) := by show _ ≤ _; omega
 obtain ⟨i0, hi0, hz0, hz1, hz2⟩ := info_parts infoZ
 have HBO0 : Hid (BoxO wc.heap.size wc.heap.size (wc.alloc (.cells #[.slice none 0 0, .slice none 0 0] 26)) (.slice none 0 0) (.slice none 0 0) [] []) :=
  ⟨ResB.made wc _, World.ownsRow_nil _ _ _ _, World.ownsRow_nil _ _ _ _, (fun b hb => by cases hb), ⟨_, (0, 0), World.alloc_heap_new wc _⟩⟩
 have HAB := Lib.hid (below_alloc wc (.cells #[.slice none 0 0, .slice none 0 0] 26))
 clear h10
 go_wp2
 go_loopw [10] (fun iv wr => ∃ (i : Nat) (v1 v2 : Value), i ≤ n ∧ iv = .int .i64 (i : Nat) ∧ BoxO wc.heap.size wc.heap.size wr v1 v2 (cubLo lo i) (cubHi lo k i) ∧ Below wc.heap.size wc wr) (fun iv _ => n - (intOf iv).toNat)
 case atStart => exact ⟨0, _, _, Nat.zero_le _, rfl, HBO0.out, HAB.out⟩
 case round =>
  obtain ⟨i, v1, v2, hi, rfl, hbo, hb⟩ := hrel
  by_cases hlt : i < n
  ·obtain ⟨la, hla⟩ : ∃ la, la = cubLo lo i := ⟨_, rfl⟩
   obtain ⟨lb, hlb⟩ : ∃ lb, lb = cubHi lo k i := ⟨_, rfl⟩
   rw [← hla, ← hlb] at hbo
   have HLN : Hid (la.length = i ∧ lb.length = i) := by rw [hla, hlb]; exact ⟨cubLo_length _ _, cubHi_length _ _ _⟩
   obtain ⟨L, hL⟩ : ∃ L, L = lo - (i : Int) := ⟨_, rfl⟩
   have HN1 : Hid (la ++ [L] = cubLo lo (i + 1)) := by show _ = _; rw [hla, hL, cubLo_snoc]
   have HN2 : Hid (lb ++ [L + (2 ^ k - 1)] = cubHi lo k (i + 1)) := by show _ = _; rw [hlb, hL, cubHi_snoc]
   have hL0 : -40000 ≤ L := by omega
   have hL1 : L ≤ 40000 := by omega
   have wl : IntKind.i64.wrap lo = lo := IntWalk.i64_in _ (by omega)
   have ws : IntKind.i64.wrap (lo - (i : Int)) = L := by rw [hL]; exact IntWalk.i64_in _ (by omega)
   have HI1 : Hid (i + 1 ≤ n ∧ n - (i + 1) < n - i) := by show _ ∧ _; omega
   have hpk := pow_small hk6
   have e2 := two_pow_cast k
   have hS0 : (1 : Int) ≤ 2 ^ k := by omega
   have hS1 : (2 : Int) ^ k ≤ 64 := by omega
   have ib0 : (0 : Int) ≤ (i : Int) := by omega
   have ib1 : (i : Int) < (n : Int) := by omega
   have kb0 : (0 : Int) ≤ (k : Int) := by omega
   have kb1 : (k : Int) ≤ 64 := by omega
   clear hla hlb hL hpk e2 hlt hi
   have HBO := Lib.hid hbo
   have HBR := Lib.hid hb
   have hll : la.length ≤ 900 := by have := HLN.out.1; omega
   have hlh : lb.length ≤ 900 := by have := HLN.out.2; omega
   obtain ⟨⟨f0, f1, f2, f3⟩, ow1, ow2, hap, htg⟩ := hbo
   have hq1 : wc.heap.size < wr.heap.size := htg.lt
   have hq2 : wc.heap.size ≠ wr.heap.size := Nat.ne_of_lt hq1
   have hge1 : wc.heap.size ≤ wr.heap.size := Nat.le_of_lt hq1
   clear hap htg ow2 hb
   go_wp2_with (at_builtin; refine wpList_append_lies _ (by rfl) _ _ 24 (by rfl) wc.heap.size 3 i0 (.int .i64 0) 1 8 Tryz.underlying24 hi0 hz0 hz1 hz2 rfl (by decide) v1 la.length (la.map (Value.int .i64)) (by rfl) (ow1.alloc _) ⟨wr.heap.size, 0, none⟩ 1 1 [.int .i64 L] (by rfl) (by rfl) (cell_one_new _ _ _) (by simp [Value.oneCell']) (by omega) (by unfold maxLen; omega) (by omega) (by simp; omega) (wr.heap.size + 1) (by simp) ?_)
   intro g1 cp1 w6 hown hgrow hat hlt6
   have hbd : Below wr.heap.size wr (wr.alloc (.cells #[.int .i64 L] 3)) := below_alloc _ _
   obtain ⟨⟨f0', f1', f2', f3'⟩, hbo4⟩ := BoxO.put1 (HBO.out.later hbd) (by decide) (H := wr.heap.size + 1) (by simp) hown hgrow hat
   have HBO4 := Lib.hid hbo4
   have hbx4 : Below wc.heap.size wr (w6.setCell ⟨wc.heap.size, 0, none⟩ (.slice (some ⟨g1, 0, none⟩) (la.length + 1) cp1)) := ((hbd.mono hge1).grown hgrow (Nat.le_trans hge1 hbd.size) (fun k e => (HBO.out.own1.lt k e).1)).setCell (p := ⟨wc.heap.size, 0, none⟩) (Nat.le_refl _) _
   have HB4 := Lib.hid (HBR.out.trans hbx4)
   clear hown hgrow hat hlt6 hbd hbo4 hbx4 f0 f1 f2 f3 ow1 hq1 hq2 hge1
   go_upto_region 10 with (fail)
   obtain ⟨W4, hW4⟩ : ∃ W4, W4 = w6.setCell ⟨wc.heap.size, 0, none⟩ (.slice (some ⟨g1, 0, none⟩) (la.length + 1) cp1) := ⟨_, rfl⟩
   rw [← hW4] at HBO4 HB4 ⊢
   clear hW4 f0' f1' f2' f3'
   have HBA : Hid (BoxA wc.heap.size wc.heap.size W4 (.slice (some ⟨g1, 0, none⟩) (la.length + 1) cp1) v2 (.slice (some ⟨g1, 0, none⟩) (la.length + 1) cp1) v2 (la ++ [L]) lb) := BoxA.of HBO4.out
   have hge4 : wc.heap.size ≤ W4.heap.size := HB4.out.size
   have HNX : Hid (∀ wx, Below wc.heap.size W4 wx → wc.heap.size ≤ wx.heap.size) := fun wx h => Nat.le_trans hge4 h.size
   have HGN : Hid (wc.heap.size ≤ wc.heap.size) := Nat.le_refl _
   have w4 : IntKind.i64.wrap ((2 : Int) ^ k) = 2 ^ k := IntWalk.i64_in _ (by omega)
   have w5 : IntKind.i64.wrap (2 ^ k - 1) = 2 ^ k - 1 := IntWalk.i64_in _ (by omega)
   have w7 : IntKind.i64.wrap (L + (2 ^ k - 1)) = L + (2 ^ k - 1) := IntWalk.i64_in _ (by omega)
   clear hge4
   refine wp_region_inv [some 42, some 43, some 44, some 45, some 46, some 47, some 48, some 49, some 50, some 51, some 52, some 53, some 54, none] (ApJ [some (.pointer (some ⟨wc.heap.size, 1, none⟩)), some (v2), some (.int .i16 lo), some (.int .i64 lo), some (.int .i64 (i : Nat)), some (.int .i64 L), some (.int .i64 (k : Nat)), some (.int .i64 (2 ^ k)), some (.int .i64 (2 ^ k - 1)), some (.int .i64 (L + (2 ^ k - 1))), none, none, some (.pointer (some ⟨wc.heap.size, 1, none⟩)), none] 10 11 13 wc.heap.size wc.heap.size W4 (.slice (some ⟨g1, 0, none⟩) (la.length + 1) cp1) v2 (la ++ [L]) lb (L + (2 ^ k - 1))) rfl (by kernel_rfl) (by kernel_rfl) (by kernel_rfl) (by kernel_rfl) ?_ ?_ ?_
   ·exact ApJ.start (Below.refl _ _).drew (HBA.out.later (Below.refl _ _).drew)
   ·intro i9 op9 ho
    have hi9 : i9 < 14 := (Array.getElem?_eq_some_iff.1 ho).1
    match i9, hi9 with
    | 0, _ =>
     obtain rfl := Option.some.inj ho
     intro a9 dn vals wx hJ0 hdi hde hdj hev hsl hun
     have hJ := Lib.hid hJ0
     rw [if_pos (wanted_none rfl)]
     have f9 : (a9.tmps[9]?).getD undef = .pointer (some ⟨wc.heap.size, 0, none⟩) := hev 9 (by kernel_rfl)
     clear hde hdj hev hsl hun hJ0 hdi
     go_simp
     exact hJ.out.read (by decide) (by decide) (by decide) rfl (Below.refl _ _) (HNX.out wx hJ.out.below)
    | 1, _ =>
     obtain rfl := Option.some.inj ho
     intro a9 dn vals wx hJ0 hdi hde hdj hev hsl hun
     have hJ := Lib.hid hJ0
     rw [if_pos (wanted_none rfl)]
     have f42 : (a9.tmps[42]?).getD undef = .pointer (some ⟨wc.heap.size, 1, none⟩) := (hsl 0 42 (hde 0 _ rfl rfl) rfl).trans (hJ.out.fv 0 _ rfl (hde 0 _ rfl rfl))
     have n11 : Hid (dn 11 = false) := hdj 11 0 _ _ rfl rfl rfl rfl
     have n13 : Hid (dn 13 = false) := hdj 13 4 _ _ rfl rfl rfl rfl
     obtain ⟨k0, k1, k2, k3⟩ := (hJ.out.s0 n11.out n13.out).res
     clear hde hdj hev hsl hun hJ0 hdi
     clear n11 n13
     go_simp
     exact hJ.out.read (by decide) (by decide) (by decide) rfl (Below.refl _ _) (HNX.out wx hJ.out.below)
    | 2, _ =>
     obtain rfl := Option.some.inj ho
     intro a9 dn vals wx hJ0 hdi hde hdj hev hsl hun
     have hJ := Lib.hid hJ0
     rw [if_pos (wanted_none rfl)]
     have f2 : (a9.tmps[2]?).getD undef = .int .i16 lo := hev 2 (by kernel_rfl)
     clear hde hdj hev hsl hun hJ0 hdi
     go_simp
     exact hJ.out.read (by decide) (by decide) (by decide) rfl (Below.refl _ _) (HNX.out wx hJ.out.below)
    | 3, _ =>
     obtain rfl := Option.some.inj ho
     intro a9 dn vals wx hJ0 hdi hde hdj hev hsl hun
     have hJ := Lib.hid hJ0
     rw [if_pos (wanted_none rfl)]
     have f44 : (a9.tmps[44]?).getD undef = .int .i16 lo := (hsl 2 44 (hde 0 _ rfl rfl) rfl).trans (hJ.out.fv 2 _ rfl (hde 0 _ rfl rfl))
     clear hde hdj hev hsl hun hJ0 hdi
     go_simp
     exact hJ.out.read (by decide) (by decide) (by decide) rfl (Below.refl _ _) (HNX.out wx hJ.out.below)
    | 4, _ =>
     obtain rfl := Option.some.inj ho
     intro a9 dn vals wx hJ0 hdi hde hdj hev hsl hun
     have hJ := Lib.hid hJ0
     rw [if_pos (wanted_none rfl)]
     have f10 : (a9.tmps[10]?).getD undef = .int .i64 (i : Nat) := hev 10 (by kernel_rfl)
     clear hde hdj hev hsl hun hJ0 hdi
     go_simp
     exact hJ.out.read (by decide) (by decide) (by decide) rfl (Below.refl _ _) (HNX.out wx hJ.out.below)
    | 5, _ =>
     obtain rfl := Option.some.inj ho
     intro a9 dn vals wx hJ0 hdi hde hdj hev hsl hun
     have hJ := Lib.hid hJ0
     rw [if_pos (wanted_none rfl)]
     have f45 : (a9.tmps[45]?).getD undef = .int .i64 lo := (hsl 3 45 (hde 0 _ rfl rfl) rfl).trans (hJ.out.fv 3 _ rfl (hde 0 _ rfl rfl))
     have f46 : (a9.tmps[46]?).getD undef = .int .i64 (i : Nat) := (hsl 4 46 (hde 1 _ rfl rfl) rfl).trans (hJ.out.fv 4 _ rfl (hde 1 _ rfl rfl))
     clear hde hdj hev hsl hun hJ0 hdi
     go_simp
     exact hJ.out.read (by decide) (by decide) (by decide) rfl (Below.refl _ _) (HNX.out wx hJ.out.below)
    | 6, _ =>
     obtain rfl := Option.some.inj ho
     intro a9 dn vals wx hJ0 hdi hde hdj hev hsl hun
     have hJ := Lib.hid hJ0
     rw [if_pos (wanted_none rfl)]
     have f8 : (a9.tmps[8]?).getD undef = .int .i64 (k : Nat) := hev 8 (by kernel_rfl)
     clear hde hdj hev hsl hun hJ0 hdi
     go_simp
     exact hJ.out.read (by decide) (by decide) (by decide) rfl (Below.refl _ _) (HNX.out wx hJ.out.below)
    | 7, _ =>
     obtain rfl := Option.some.inj ho
     intro a9 dn vals wx hJ0 hdi hde hdj hev hsl hun
     have hJ := Lib.hid hJ0
     rw [if_pos (wanted_none rfl)]
     have f48 : (a9.tmps[48]?).getD undef = .int .i64 (k : Nat) := (hsl 6 48 (hde 0 _ rfl rfl) rfl).trans (hJ.out.fv 6 _ rfl (hde 0 _ rfl rfl))
     clear hde hdj hev hsl hun hJ0 hdi
     go_simp
     exact hJ.out.read (by decide) (by decide) (by decide) rfl (Below.refl _ _) (HNX.out wx hJ.out.below)
    | 8, _ =>
     obtain rfl := Option.some.inj ho
     intro a9 dn vals wx hJ0 hdi hde hdj hev hsl hun
     have hJ := Lib.hid hJ0
     rw [if_pos (wanted_none rfl)]
     have f49 : (a9.tmps[49]?).getD undef = .int .i64 (2 ^ k) := (hsl 7 49 (hde 0 _ rfl rfl) rfl).trans (hJ.out.fv 7 _ rfl (hde 0 _ rfl rfl))
     clear hde hdj hev hsl hun hJ0 hdi
     go_simp
     exact hJ.out.read (by decide) (by decide) (by decide) rfl (Below.refl _ _) (HNX.out wx hJ.out.below)
    | 9, _ =>
     obtain rfl := Option.some.inj ho
     intro a9 dn vals wx hJ0 hdi hde hdj hev hsl hun
     have hJ := Lib.hid hJ0
     rw [if_pos (wanted_none rfl)]
     have f47 : (a9.tmps[47]?).getD undef = .int .i64 L := (hsl 5 47 (hde 0 _ rfl rfl) rfl).trans (hJ.out.fv 5 _ rfl (hde 0 _ rfl rfl))
     have f50 : (a9.tmps[50]?).getD undef = .int .i64 (2 ^ k - 1) := (hsl 8 50 (hde 1 _ rfl rfl) rfl).trans (hJ.out.fv 8 _ rfl (hde 1 _ rfl rfl))
     clear hde hdj hev hsl hun hJ0 hdi
     go_simp
     exact hJ.out.read (by decide) (by decide) (by decide) rfl (Below.refl _ _) (HNX.out wx hJ.out.below)
    | 10, _ =>
     obtain rfl := Option.some.inj ho
     intro a9 dn vals wx hJ0 hdi hde hdj hev hsl hun
     have hJ := Lib.hid hJ0
     rw [if_pos (wanted_none rfl)]
     have f51 : (a9.tmps[51]?).getD undef = .int .i64 (L + (2 ^ k - 1)) := (hsl 9 51 (hde 0 _ rfl rfl) rfl).trans (hJ.out.fv 9 _ rfl (hde 0 _ rfl rfl))
     clear hde hdj hev hsl hun hJ0 hdi
     go_simp
     exact hJ.out.build (by decide) (by decide) rfl (HNX.out wx hJ.out.below)
    | 11, _ =>
     obtain rfl := Option.some.inj ho
     intro a9 dn vals wx hJ0 hdi hde hdj hev hsl hun
     have hJ := Lib.hid hJ0
     rw [if_pos (wanted_none rfl)]
     have f43 : (a9.tmps[43]?).getD undef = v2 := (hsl 1 43 (hde 0 _ rfl rfl) rfl).trans (hJ.out.fv 1 _ rfl (hde 0 _ rfl rfl))
     obtain ⟨b3, e3, q3⟩ := hJ.out.fb (hde 1 _ rfl rfl) hdi
     have f52 : (a9.tmps[52]?).getD undef = .slice (some ⟨b3, 0, none⟩) 1 1 := (hsl 10 52 (hde 1 _ rfl rfl) rfl).trans e3
     have n13 : Hid (dn 13 = false) := hdj 13 1 _ _ rfl rfl rfl rfl
     have hS := hJ.out.s0 hdi n13.out
     obtain ⟨g9, cap9, w9, hrun, hown, hgr, hat, hlt9⟩ := run_append_lies (P := Tryz.prog) (w := wx) 24 24 wc.heap.size 3 i0 (.int .i64 0) 1 8 Tryz.underlying24 hi0 hz0 hz1 hz2 rfl (by decide) v2 lb.length _ hS.own2 ⟨b3, 0, none⟩ 1 1 [.int .i64 (L + (2 ^ k - 1))] rfl (fun j u hj => by
      match j, hj with
      | 0, hj => simp at hj; subst hj; exact q3) (fun u hu => by simp at hu; subst hu; rfl) (by decide) (by unfold maxLen; omega) (by omega) (HNX.out wx hJ.out.below) _ rfl
     have HF := Lib.hid (hJ.out.append (by decide) rfl (HNX.out wx hJ.out.below) hdi n13.out hown hgr hat)
     have HRUN := Lib.hid hrun
     clear hde hdj hev hsl hun hJ0 hdi
     clear hrun hown hgr hat hlt9 hS q3 e3
     refine does_append2 (s := .tmp 43) (x := .tmp 52) (T := 24) rfl (by rw [eval_tmp]; exact f43) (by rw [eval_tmp]; exact f52) HRUN.out HF.out
    | 12, _ =>
     obtain rfl := Option.some.inj ho
     intro a9 dn vals wx hJ0 hdi hde hdj hev hsl hun
     have hJ := Lib.hid hJ0
     rw [if_pos (wanted_none rfl)]
     have f9 : (a9.tmps[9]?).getD undef = .pointer (some ⟨wc.heap.size, 0, none⟩) := hev 9 (by kernel_rfl)
     clear hde hdj hev hsl hun hJ0 hdi
     go_simp
     exact hJ.out.read (by decide) (by decide) (by decide) rfl (Below.refl _ _) (HNX.out wx hJ.out.below)
    | 13, _ =>
     obtain rfl := Option.some.inj ho
     intro a9 dn vals wx hJ0 hdi hde hdj hev hsl hun
     have hJ := Lib.hid hJ0
     rw [if_pos (wanted_none rfl)]
     have f54 : (a9.tmps[54]?).getD undef = .pointer (some ⟨wc.heap.size, 1, none⟩) := (hsl 12 54 (hde 0 _ rfl rfl) rfl).trans (hJ.out.fv 12 _ rfl (hde 0 _ rfl rfl))
     obtain ⟨b4, cp4, e4⟩ := hJ.out.fa (hde 1 _ rfl rfl)
     have f53 : (a9.tmps[53]?).getD undef = .slice (some ⟨b4, 0, none⟩) (lb.length + 1) cp4 := (hsl 11 53 (hde 1 _ rfl rfl) rfl).trans e4
     have d11 : Hid (dn 11 = true) := hde 1 _ rfl rfl
     have hS := hJ.out.s1 d11.out hdi
     obtain ⟨k0, k1, k2, k3⟩ := hS.res
     have HF := Lib.hid (fun v => hJ.out.store (v := v) (by decide) rfl HGN.out d11.out hdi e4)
     clear hde hdj hev hsl hun hJ0 hdi
     clear hS e4
     go_simp
     exact HF.out _
   ·intro dn vals wx hall hJ
    have hS := hJ.s2 (hall 11 (by decide)) (hall 13 (by decide))
    obtain ⟨b4, cp4, g11⟩ := hJ.fa (hall 11 (by decide))
    rw [g11] at hS
    have g0 := hJ.fv 0 _ rfl (hall 0 (by decide))
    have g1 := hJ.fv 1 _ rfl (hall 1 (by decide))
    have g2 := hJ.fv 2 _ rfl (hall 2 (by decide))
    have g3 := hJ.fv 3 _ rfl (hall 3 (by decide))
    have g4 := hJ.fv 4 _ rfl (hall 4 (by decide))
    have g5 := hJ.fv 5 _ rfl (hall 5 (by decide))
    have g6 := hJ.fv 6 _ rfl (hall 6 (by decide))
    have g7 := hJ.fv 7 _ rfl (hall 7 (by decide))
    have g8 := hJ.fv 8 _ rfl (hall 8 (by decide))
    have g9 := hJ.fv 9 _ rfl (hall 9 (by decide))
    have g12 := hJ.fv 12 _ rfl (hall 12 (by decide))
    have HS9 := Lib.hid hS.to
    have HB9 := Lib.hid hJ.below
    simp only [putDs, Act.put, Nat.zero_add, Nat.reduceAdd, List.setIfInBounds_toArray, List.set_cons_succ, List.set_cons_zero, g11, g0, g1, g2, g3, g4, g5, g6, g7, g8, g9, g12]
    clear g11 g0 g1 g2 g3 g4 g5 g6 g7 g8 g9 g12 hS hJ hall
    rw [HN1.out, HN2.out] at HS9
    have HF9 := Lib.hid (And.intro HS9.out (HB4.out.trans HB9.out))
    clear w4 w5 w7 HS9 HB9
    go_wp2
    exact ⟨⟨i + 1, _, _, HI1.out.1, by go_num, HF9.out.1, HF9.out.2⟩, HI1.out.2⟩
  ·have hin : i = n := by omega
   rw [hin] at hbo ⊢
   have HOX := Lib.hid hbo.res
   have htl := hbo.tag.lt
   have HO1 := Lib.hid (RowZ.append_owns hbo.own1 rfl)
   have HO2 := Lib.hid (RowZ.append_owns hbo.own2 rfl)
   have HB1 := Lib.hid hb
   obtain ⟨E2, hE2⟩ : ∃ E2, E2 = RetRows (SortedBy ⟨[], [], 2, 0, 0, 0⟩ (cubLo lo n) (cubHi lo k n)) 0 wr := ⟨_, rfl⟩
   have hmk : n * k ≤ 10 := by rw [← HMM.out]; exact H10.out
   have hbs : BoxS (cubLo lo n) (cubHi lo k n) := boxS_of (cub_formed hn1 hn4) (cub_lim hk6 hmk (by omega))
   have HE2 := Lib.hid hE2
   have CS := Lib.hid (seq_all (.slice none 0 0) (.slice none 0 0) v1 v2 ⟨[], [], 2, 0, 0, 0⟩ (cubLo lo n) (cubHi lo k n) wr ⟨Ls.nil _ none 0 (by omega), Ls.nil _ none 0 (by omega)⟩ HO1.out.ints HO2.out.ints (fun x hx => by
    obtain ⟨j, hj, he⟩ := List.getElem_of_mem hx
    have := cubLo_get (he ▸ List.getElem?_eq_getElem hj)
    omega) (by decide) (cub_formed hn1 hn4) (cub_lim hk6 hmk (by omega)) (ofV_fn 2 0 _ _ (by rw [cubLo_length]; exact hn1) (by rw [cubLo_length]; exact hn4) hbs.bits (by decide)))
   rw [← hE2] at CS
   obtain ⟨p1, k1, rfl, -⟩ := HO1.out.ints.shape
   obtain ⟨p2, k2, rfl, -⟩ := HO2.out.ints.shape
   rw [cubLo_length] at HOX CS
   rw [cubHi_length] at HOX CS
   obtain ⟨r0, r1, r2, r3⟩ := HOX.out
   clear hbo hb hi hlt hin hE2 hbs t10 l0 l1 HAB HBO0 hi0 hz0 hz1 hz2 wm
   go_wp2_with fail
   refine CS.out.mono ?_
   intro e w2 he
   rw [HE2.out] at he
   obtain ⟨vr, r, rfl, hs, hrr, hb2⟩ := he
   have hmk : n * k ≤ 10 := by rw [← HMM.out]; exact H10.out
   have hcv := curve_of hn1 hn4 hk6 hmk rfl HLO.out.1 HLO.out.2 hs
   have HCV := Lib.hid hcv
   have hp10 := pow_1024 hmk
   have hrl : (r.length : Int) = 2 ^ m := by rw [hcv.len, HMM.out, two_pow_cast]
   have HRL : Hid (0 < r.length ∧ r.length ≤ 1024) := by show _ ∧ _; rw [hcv.len]; omega
   have t1 : (((r.length : Nat) : Int) != (2 : Int) ^ m) = false := by rw [hrl]; simp
   obtain ⟨pr, kr, rfl, -⟩ := hrr.shape
   have HR2 := Lib.hid hrr
   obtain ⟨gr, or', x, ea, hx, hrow⟩ := hrr.at 0 HRL.out.1
   obtain rfl : x = cubLo lo n := by rw [hcv.first] at hx; exact (Option.some.inj hx).symm
   subst ea
   obtain ⟨vx, z0, hxi⟩ := hrow.ex
   rw [Nat.zero_mul, Nat.add_zero] at z0
   have d0 := cell_later r0 hb2
   have CE := Lib.hid (fun nq => lequal_any (cubLo lo n) (cubLo lo n) vx (.slice p1 (cubLo lo n).length k1) (w2.drewN nq) (hxi.later IntR.lasts (below_drewN' _ _)) ((HO1.out.ints.later IntR.lasts hb2).later IntR.lasts (below_drewN' _ _)))
   obtain ⟨px, kx, rfl, -⟩ := hxi.shape
   rw [cubLo_length] at z0
   simp only [decide_true, cubLo_length] at CE
   have HB2 := Lib.hid (below_keep HB1.out hb2)
   have m0 : (0 : Int) ≤ (m : Int) := by omega
   have m1 : (m : Int) ≤ 64 := by have := H10.out; omega
   have wmk : IntKind.i64.wrap ((n : Int) * (k : Int)) = (m : Int) := by
    rw [show (n : Int) * (k : Int) = (m : Int) from by rw [HMM.out, Int.natCast_mul]]
    exact IntWalk.i64_in _ (by have := H10.out; omega)
   have p0 : (1 : Int) ≤ 2 ^ m := by rw [← hrl]; have := HRL.out.1; omega
   have p9 : (2 : Int) ^ m ≤ 1024 := by rw [← hrl]; have := HRL.out.2; omega
   have l0 : (0 : Int) < ((r.length : Nat) : Int) := by have := HRL.out.1; omega
   clear hs hrr hcv hp10 hrl hx hrow hxi hb2 r0 r1 r2 r3 hmk htl
   go_wp2_with fail
   go_quiet ((go_at_call 9; exact Calls.quiet_of (CE.out _)))
   obtain ⟨W2, hW2⟩ : ∃ W2, W2 = w2.drewN nq := ⟨_, rfl⟩
   have HRW : Hid (RowsI W2 (.slice (some ⟨gr, or', none⟩) r.length kr) r) := by show RowsI _ _ _; rw [hW2]; exact HR2.out.later RowR.lasts (below_drewN' _ _)
   have HBW : Hid (Below wc.heap.size wc W2) := by show Below _ _ _; rw [hW2]; exact below_keep HB2.out (below_drewN' _ _)
   rw [← hW2]
   clear hW2 z0 d0 t1 m0 m1 wmk p0 p9 HR2 HB2 CE HO1 HO2 HOX HB1 l0
   go_wp2
   go_loopw [13] (fun iv wr => ∃ i : Nat, 1 ≤ i ∧ i ≤ r.length ∧ iv = .int .i64 (i : Nat) ∧ Below W2.heap.size W2 wr) (fun iv _ => r.length - (intOf iv).toNat)
   case atStart => exact ⟨1, Nat.le_refl _, HRL.out.1, rfl, Below.refl _ _⟩
   case round =>
    obtain ⟨j, hj1, hj, rfl, hbl⟩ := hrel
    have HBL := Lib.hid hbl
    by_cases hlt : j < r.length
    ·obtain ⟨q, hq⟩ : ∃ q, j = q + 1 := ⟨j - 1, by omega⟩
     obtain ⟨g2, o2, x, ea, hx, hrx⟩ := HRW.out.at j hlt
     injection ea with ea
     injection ea with e1 e2
     subst e1 e2
     obtain ⟨g3, o3, y, eb, hy, hry⟩ := HRW.out.at q (by omega)
     injection eb with eb
     injection eb with e1 e2
     subst e1 e2
     obtain ⟨vx, z0, hxi⟩ := hrx.ex
     obtain ⟨vy, z1, hyi⟩ := hry.ex
     rw [Nat.mul_one] at z0 z1
     have hxl := HCV.out.lens j x hx
     have hyl := HCV.out.lens q y hy
     obtain ⟨qx, kx, rfl, -⟩ := hxi.shape
     obtain ⟨qy, ky, rfl, -⟩ := hyi.shape
     rw [hxl] at z0 hxi
     rw [hyl] at z1 hyi
     have HXY : Hid (x.length = n ∧ y.length = n) := ⟨hxl, hyl⟩
     have HDF := Lib.hid (HCV.out.diff hx hy)
     have HFAR : Hid (farI x y = 1) := HCV.out.near q x y (hq ▸ hx) hy
     have HSM := Lib.hid (And.intro (HCV.out.small j x hx) (HCV.out.small q y hy))
     have KL : Hid (∀ wz, Below W2.heap.size W2 wz → wz.cell? ⟨gr, or' + j, none⟩ = some (.slice qx n kx) ∧ wz.cell? ⟨gr, or' + q, none⟩ = some (.slice qy n ky) ∧ Ints wz (.slice qx n kx) x ∧ Ints wz (.slice qy n ky) y) := fun wz h =>
      ⟨cell_later z0 h, cell_later z1 h, hxi.later IntR.lasts h, hyi.later IntR.lasts h⟩
     have HJ1 : Hid (1 ≤ j + 1 ∧ j + 1 ≤ r.length ∧ r.length - (j + 1) < r.length - j) := by show _ ∧ _ ∧ _; omega
     have rb : (r.length : Int) ≤ 1024 := by have := HRL.out.2; omega
     have jb0 : (0 : Int) ≤ (j : Int) := by omega
     have jb1 : (j : Int) < (r.length : Int) := by omega
     have qb0 : (0 : Int) ≤ (q : Int) := by omega
     have qb1 : (q : Int) < (r.length : Int) := by omega
     have wj : IntKind.i64.wrap ((j : Int) - 1) = (q : Int) := by
      rw [show (j : Int) - 1 = (q : Int) from by omega]
      exact IntWalk.i64_in _ (by have := HRL.out.2; omega)
     clear hx hrx hy hry z0 z1 hxi hyi hxl hyl hq hj1 hj hlt hbl
     go_wp2
     go_loopw [14, 15] (fun fv jv wr => ∃ (t : Nat) (F : Int), t ≤ n ∧ fv = .int .i64 F ∧ jv = .int .i64 (t : Nat) ∧ Hid (F = farI (x.take t) (y.take t)) ∧ Below W2.heap.size W2 wr) (fun _ jv _ => n - (intOf jv).toNat)
     case atStart => exact ⟨0, 0, Nat.zero_le _, rfl, rfl, rfl, HBL.out⟩
     case round =>
      obtain ⟨t, F, ht, rfl, rfl, HF, hbz⟩ := hrel
      have HBZ := Lib.hid hbz
      by_cases htn : t < n
      ·obtain ⟨z0, z1, hxi, hyi⟩ := KL.out wr hbz
       obtain ⟨g4, o4, a, ea, ha, hra⟩ := hxi.at t (by rw [HXY.out.1]; exact htn)
       obtain ⟨g5, o5, b, eb, hb5, hrb⟩ := hyi.at t (by rw [HXY.out.2]; exact htn)
       subst ea eb
       rw [Nat.mul_one] at hra hrb
       unfold IntR at hra hrb
       have dd := HDF.out t a b ha hb5
       have ca := HSM.out.1 a (List.mem_of_getElem? ha)
       have cb := HSM.out.2 b (List.mem_of_getElem? hb5)
       have fb := farI_bound HDF.out (HXY.out.1.trans HXY.out.2.symm) t (by rw [HXY.out.1]; omega)
       rw [← HF.out] at fb
       obtain ⟨F', hF'⟩ : ∃ F', F' = F + max (a - b) (b - a) := ⟨_, rfl⟩
       have HF' : Hid (F' = farI (x.take (t + 1)) (y.take (t + 1))) := by show _ = _; rw [farI_take ha hb5, hF', HF.out]
       have w1 : IntKind.i64.wrap (a - b) = a - b := IntWalk.i64_in _ (by omega)
       have w2' : IntKind.i64.wrap (b - a) = b - a := IntWalk.i64_in _ (by omega)
       have w3 : IntKind.i64.wrap (F + max (a - b) (b - a)) = F' := by rw [hF']; exact IntWalk.i64_in _ (by omega)
       have HT1 : Hid (t + 1 ≤ n ∧ n - (t + 1) < n - t) := by show _ ∧ _; omega
       have tb0 : (0 : Int) ≤ (t : Int) := by omega
       have tb1 : (t : Int) < (n : Int) := by omega
       clear hxi hyi ha hb5 dd ca cb fb hF' hbz ht
       go_wp2_with fail
       go_quiet (fail)
       have HBY := Lib.hid (below_keep HBZ.out (below_drewN' wr nq))
       go_wp2
       exact ⟨⟨t + 1, F', HT1.out.1, rfl, by go_num, HF'.out, HBY.out⟩, HT1.out.2⟩
      ·have hF1 : F = 1 := by
        rw [HF.out, List.take_of_length_le (by rw [HXY.out.1]; omega), List.take_of_length_le (by rw [HXY.out.2]; omega)]
        exact HFAR.out
       clear HF
       subst hF1
       clear hbz ht
       go_wp2
       exact ⟨⟨j + 1, HJ1.out.1, HJ1.out.2.1, by go_num, HBZ.out⟩, HJ1.out.2.2⟩
    ·clear hj1 hbl
     go_wp2_with fail
     refine (CW.out _ (below_keep HBW.out HBL.out)).mono ?_
     rintro e z ⟨rfl, hb⟩
     have HBE := Lib.hid (below_keep (below_keep HBW.out HBL.out) hb)
     clear hb CW
     go_wp2
     go_ret
     exact ⟨rfl, HBE.out⟩
end Go.Proofs.YtkliekoheeeamaaGreatDoor
