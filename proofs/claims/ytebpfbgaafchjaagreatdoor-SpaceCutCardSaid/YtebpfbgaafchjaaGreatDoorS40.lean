/- Lemmas and contracts, each under its own condition: space.Whole: the contract. (region 8 printed by gen_whole.py) A drawn region of reads and calls whose last steps are: a list of one element is built, appended to the first list of a box, and stored. The reference's Whole: the contract. (printed by rwhole.py) -/
import Derived.Deep.DeepCutAuto
import Derived.Deep.CutBlock
import Derived.Deep.RegionHeld3
import Derived.BigQuiet
import Derived.Test.YtebpfbgaafchjaaGreatDoorS13
import Derived.Test.YtebpfbgaafchjaaGreatDoorS18
import Derived.Test.YtebpfbgaafchjaaGreatDoorS28
import Derived.Test.YtebpfbgaafchjaaGreatDoorS3
import Derived.Test.YtebpfbgaafchjaaGreatDoorS9
/- space.Whole: the contract. (region 8 printed by gen_whole.py) -/
namespace Go.Proofs.YtebpfbgaafchjaaGreatDoor
open Go.RowKit Go.Shelf
attribute [local go_sem] Oper.semAt_some

/-- the bounds of the dimensions -/
def wholeB (d : List DimT) : List Int × List Int := if dimsE d = 0 then (d.map DimT.lo, d.map DimT.hi) else ([], [])
/-- two numbers in the loop variable's block -/
structure CqJ (q : Nat) (x y : Int) (w : World) : Prop where
 c1 : w.cell? ⟨q, 1, none⟩ = some (.int .i64 x)
 c2 : w.cell? ⟨q, 2, none⟩ = some (.int .i64 y)
theorem CqJ.later {q : Nat} {x y : Int} {w w' : World} (h : CqJ q x y w) (hb : Below w.heap.size w w') : CqJ q x y w' := ⟨cell_later h.c1 hb, cell_later h.c2 hb⟩
theorem CqJ.grown {q : Nat} {x y : Int} {w w' : World} {row : Option Nat} (h : CqJ q x y w) (hg : w.grownBy w' row) (hr : row ≠ some q) : CqJ q x y w' := ⟨hg.cell h.c1 (fun e => hr e.symm), hg.cell h.c2 (fun e => hr e.symm)⟩
theorem CqJ.set {q g o : Nat} {x y : Int} {w : World} {v : Value} (h : CqJ q x y w) (hne : q ≠ g) : CqJ q x y (w.setCell ⟨g, o, none⟩ v) := h.grown (row := some g) (grown_setG w g o v) (fun e => hne (Option.some.inj e).symm)
/-- what is known in the region of the two appends -/
structure HmK (n₀ g q : Nat) (W0 : World) (v1 v2 : Value) (lo hi : List Int) (x y : Int) (dn : Nat → Bool) (vals : Nat → Value) (w : World) : Prop where
 below : Below n₀ W0 w
 res : dn 13 = false → dn 15 = false → ResB w g v1 v2
 s0 : dn 5 = false → BoxA n₀ g w v1 v2 v1 v2 lo hi
 s1 : dn 5 = true → dn 11 = false → BoxA n₀ g w v1 v2 (vals 5) v2 (lo ++ [x]) hi
 s2 : dn 11 = true → dn 13 = false → BoxA n₀ g w v1 v2 (vals 5) (vals 11) (lo ++ [x]) (hi ++ [y])
 s3 : dn 13 = true → dn 15 = false → BoxA n₀ g w (vals 5) v2 (vals 5) (vals 11) (lo ++ [x]) (hi ++ [y])
 s4 : dn 15 = true → BoxA n₀ g w (vals 5) (vals 11) (vals 5) (vals 11) (lo ++ [x]) (hi ++ [y])
 f0 : dn 0 = true → vals 0 = .pointer (some ⟨g, 0, none⟩)
 f1 : dn 1 = true → vals 1 = v1
 f2 : dn 2 = true → vals 2 = .pointer (some ⟨q, 1, none⟩)
 f3 : dn 3 = true → vals 3 = .int .i64 x
 f4 : dn 4 = true → dn 5 = false → ∃ b, vals 4 = .slice (some ⟨b, 0, none⟩) 1 1 ∧ w.cell? ⟨b, 0, none⟩ = some (.int .i64 x)
 f5 : dn 5 = true → ∃ b cap, vals 5 = .slice (some ⟨b, 0, none⟩) (lo.length + 1) cap
 f6 : dn 6 = true → vals 6 = .pointer (some ⟨g, 1, none⟩)
 f7 : dn 7 = true → vals 7 = v2
 f8 : dn 8 = true → vals 8 = .pointer (some ⟨q, 2, none⟩)
 f9 : dn 9 = true → vals 9 = .int .i64 y
 f10 : dn 10 = true → dn 11 = false → ∃ b, vals 10 = .slice (some ⟨b, 0, none⟩) 1 1 ∧ w.cell? ⟨b, 0, none⟩ = some (.int .i64 y) ∧ v1.ownBlock ≠ some b
 f11 : dn 11 = true → ∃ b cap, vals 11 = .slice (some ⟨b, 0, none⟩) (hi.length + 1) cap
 f12 : dn 12 = true → vals 12 = .pointer (some ⟨g, 0, none⟩)
 f14 : dn 14 = true → vals 14 = .pointer (some ⟨g, 1, none⟩)
 cq : CqJ q x y w
theorem whole_bad (d : List DimT) (v : Value) (w : World) (hd : Dims w v d) (hs : StrD d) (h : dimsE d ≠ 0) :
  Calls Tryz.prog 30 #[v] w (RetBx ([], []) (dimsE d) w) := by
 have C := Lib.hid (fun w1 (hb : Below w.heap.size w w1) => shape_any d v w1 (hd.later DimR.lasts hb) hs)
 obtain ⟨p1, cap1, rfl, -⟩ := hd.shape
 have hne : (dimsE d != 0) = true := by rw [bne_iff_ne]; exact h
 generalize dimsE d = r at *
 clear hd hs h
 go_enter Tryz.func30, Tryz.ntmps30
 go_wp2_with fail
 refine (C.out _ (below_alloc _ _)).mono ?_
 rintro e w1 ⟨rfl, hb⟩
 have HB := Lib.hid ((below_alloc _ _).trans (hb.mono (by simp)))
 obtain ⟨r0, r1, r2, r3⟩ := (ResB.made w 26).later hb (by simp)
 clear hb C
 go_wp2
 refine bodyPost_ret (by simp [results, Tryz.results30, go_sem, r0, r1]; try rfl) rfl ?_
 exact ⟨_, _, rfl, IntsO.nil _, IntsO.nil _, (HB.out.setCell (by simp) _).setCell (by simp) _⟩
theorem map_snoc {α β : Type} {l : List α} {i : Nat} {x : α} (f : α → β) (h : l[i]? = some x) : (l.map f).take (i + 1) = (l.map f).take i ++ [f x] :=
 take_snoc' (by rw [List.getElem?_map, h]; rfl)
set_option maxHeartbeats 32000000 in
set_option maxRecDepth 100000 in
theorem whole_core (d : List DimT) (v : Value) (w : World) (hd : Dims w v d) (hs : StrD d) (h : dimsE d = 0) :
  Calls Tryz.prog 30 #[v] w (RetBx (d.map DimT.lo, d.map DimT.hi) 0 w) := by
 have C := Lib.hid (fun w1 (hb : Below w.heap.size w w1) => shape_any d v w1 (hd.later DimR.lasts hb) hs)
 rw [h] at C
 have hd4 := (dims_good h).2.1
 have HDD := Lib.hid hd
 obtain ⟨p1, cap1, rfl, -⟩ := hd.shape
 obtain ⟨i0, hi0, hz0, hz1, hz2⟩ := info_parts infoZ
 clear hd hs h
 go_enter Tryz.func30, Tryz.ntmps30
 go_wp2_with fail
 refine (C.out _ (below_alloc _ _)).mono ?_
 rintro e w1 ⟨rfl, hb⟩
 have HB := Lib.hid ((below_alloc w (.cells #[.slice none 0 0, .slice none 0 0] 26)).trans (hb.mono (by simp)))
 have HR0 := Lib.hid ((ResB.made w 26).later hb (by simp))
 have HS1 : Hid (w.heap.size < w1.heap.size) := by show _ < _; have := hb.size; simp at this; omega
 clear hb C
 go_wp2
 have HBO : Hid (BoxO w1.heap.size w1.heap.size (w1.alloc (.cells #[.slice none 0 0, .slice none 0 0] 26)) (.slice none 0 0) (.slice none 0 0) [] []) :=
  ⟨ResB.made w1 _, World.ownsRow_nil _ _ _ _, World.ownsRow_nil _ _ _ _, (fun b hb => by cases hb), ⟨_, (0, 0), World.alloc_heap_new w1 _⟩⟩
 have HAB := Lib.hid (below_alloc w1 (.cells #[.slice none 0 0, .slice none 0 0] 26))
 go_loopw [16] (fun iv wr => ∃ (i : Nat) (v1 v2 : Value), i ≤ d.length ∧ iv = .int .i64 (i : Nat) ∧ BoxO w1.heap.size w1.heap.size wr v1 v2 ((d.map DimT.lo).take i) ((d.map DimT.hi).take i) ∧ Below w1.heap.size w1 wr) (fun iv _ => d.length - (intOf iv).toNat)
 case atStart => exact ⟨0, _, _, Nat.zero_le _, rfl, HBO.out, HAB.out⟩
 case round =>
  clear HBO HAB
  obtain ⟨i, v1, v2, hi', rfl, hbo, hb⟩ := hrel
  have HBO := Lib.hid hbo
  have HBR := Lib.hid hb
  have HBW := Lib.hid (HB.out.trans (hb.mono (Nat.le_of_lt HS1.out)))
  clear hbo hb
  by_cases hlt : i < d.length
  ·obtain ⟨gd, od, x, ea, hx, hr⟩ := HDD.out.at i hlt
   subst ea
   have hr := DimR.lasts _ _ _ _ _ hr HBW.out
   obtain ⟨x0, x1, x2⟩ := hr
   have HM1 := Lib.hid (map_snoc DimT.lo hx)
   have HM2 := Lib.hid (map_snoc DimT.hi hx)
   obtain ⟨lo, hlo⟩ : ∃ lo, lo = (d.map DimT.lo).take i := ⟨_, rfl⟩
   obtain ⟨hi, hhi⟩ : ∃ hi, hi = (d.map DimT.hi).take i := ⟨_, rfl⟩
   have HLN : Hid (lo.length = i ∧ hi.length = i) := by
    refine ⟨?_, ?_⟩
    ·rw [hlo, List.length_take, List.length_map]; omega
    ·rw [hhi, List.length_take, List.length_map]; omega
   rw [← hlo, ← hhi] at HBO
   rw [← hlo] at HM1
   rw [← hhi] at HM2
   have HI1 : Hid (i + 1 ≤ d.length ∧ d.length - (i + 1) < d.length - i) := by show _ ∧ _; omega
   have ib0 : (0 : Int) ≤ (i : Int) := by omega
   have ib1 : (i : Int) < (d.length : Int) := by omega
   obtain ⟨nm, xl, xh⟩ := x
   simp only at x0 x1 x2 HM1 HM2
   obtain ⟨Wd, hWd⟩ : ∃ Wd, Wd = wr.alloc (.cells #[.string ⟨nm.toArray⟩, .int .i64 xl, .int .i64 xh] 74) := ⟨_, rfl⟩
   have HBQ : Hid (Below wr.heap.size wr Wd) := by rw [hWd]; exact below_alloc _ _
   have HCQ : Hid (CqJ wr.heap.size xl xh Wd) := by rw [hWd]; exact ⟨by rw [World.cell?_alloc_at _ _ _ _ rfl]; rfl, by rw [World.cell?_alloc_at _ _ _ _ rfl]; rfl⟩
   have HB0 : Hid (BoxA w1.heap.size w1.heap.size Wd v1 v2 v1 v2 lo hi) := (BoxA.of HBO.out).later HBQ.out
   have HBC := Lib.hid (HBR.out.trans (HBQ.out.mono HBR.out.size))
   have HNX : Hid (∀ wx, Below w1.heap.size Wd wx → w1.heap.size ≤ wx.heap.size) := fun wx h => Nat.le_trans HBC.out.size h.size
   have HSZ : Hid (∀ wx, Below w1.heap.size Wd wx → w1.heap.size < wx.heap.size) := fun wx h => Nat.lt_of_lt_of_le HB0.out.tag.lt h.size
   have HV1 : Hid (∀ wx, Below w1.heap.size Wd wx → v1.ownBlock ≠ some wx.heap.size) := fun wx h e => by
    have := (HB0.out.own1.lt _ e).2
    have := h.size
    omega
   have HVQ1 : Hid (v1.ownBlock ≠ some wr.heap.size) := fun e => by have := (HBO.out.own1.lt _ e).2; omega
   have HVQ2 : Hid (v2.ownBlock ≠ some wr.heap.size) := fun e => by have := (HBO.out.own2.lt _ e).2; omega
   have HQG : Hid (wr.heap.size ≠ w1.heap.size) := fun e => by have := HBO.out.tag.lt; omega
   have HGN : Hid (w1.heap.size ≤ w1.heap.size) := Nat.le_refl _
   have hll : lo.length ≤ 900 := by have := HLN.out.1; omega
   have hlh : hi.length ≤ 900 := by have := HLN.out.2; omega
   clear hx hlo hhi
   go_upto_region 8 with (fail)
   rw [← hWd]
   clear hWd x0 x1 x2 ib0 ib1
   refine wp_region_inv [some 20, some 21, some 22, some 23, some 24, some 25, some 26, some 27, some 28, some 29, some 30, some 31, some 32, none, some 33, none] (HmK w1.heap.size w1.heap.size wr.heap.size Wd v1 v2 lo hi xl xh) rfl (by kernel_rfl) (by kernel_rfl) (by kernel_rfl) (by kernel_rfl) ?_ ?_ ?_
   ·exact { below := (Below.refl _ _).drew, res := fun _ _ => (HB0.out.later (Below.refl _ _).drew).res, s0 := fun _ => HB0.out.later (Below.refl _ _).drew, s1 := fun h _ => Bool.noConfusion h, s2 := fun h _ => Bool.noConfusion h, s3 := fun h _ => Bool.noConfusion h, s4 := fun h => Bool.noConfusion h, f0 := fun h => Bool.noConfusion h, f1 := fun h => Bool.noConfusion h, f2 := fun h => Bool.noConfusion h, f3 := fun h => Bool.noConfusion h, f4 := fun h _ => Bool.noConfusion h, f5 := fun h => Bool.noConfusion h, f6 := fun h => Bool.noConfusion h, f7 := fun h => Bool.noConfusion h, f8 := fun h => Bool.noConfusion h, f9 := fun h => Bool.noConfusion h, f10 := fun h _ => Bool.noConfusion h, f11 := fun h => Bool.noConfusion h, f12 := fun h => Bool.noConfusion h, f14 := fun h => Bool.noConfusion h, cq := HCQ.out.later (Below.refl _ _).drew }
   ·intro i9 op9 ho
    have hi9 : i9 < 16 := (Array.getElem?_eq_some_iff.1 ho).1
    match i9, hi9 with
    | 0, _ =>
     obtain rfl := Option.some.inj ho
     intro a9 dn vals wx hJ0 hdi hde hdj hev hsl hun
     have hJ := Lib.hid hJ0
     rw [if_pos (wanted_none rfl)]
     have f5 : (a9.tmps[5]?).getD undef = .pointer (some ⟨w1.heap.size, 0, none⟩) := hev 5 (by kernel_rfl)
     clear hde hdj hev hsl hun hJ0 hdi
     go_simp
     exact { below := hJ.out.below, res := fun h h2 => hJ.out.res h h2, s0 := fun h => hJ.out.s0 h, s1 := fun h h2 => hJ.out.s1 h h2, s2 := fun h h2 => hJ.out.s2 h h2, s3 := fun h h2 => hJ.out.s3 h h2, s4 := fun h => hJ.out.s4 h, f0 := fun _ => rfl, f1 := fun h => hJ.out.f1 h, f2 := fun h => hJ.out.f2 h, f3 := fun h => hJ.out.f3 h, f4 := fun h h2 => hJ.out.f4 h h2, f5 := fun h => hJ.out.f5 h, f6 := fun h => hJ.out.f6 h, f7 := fun h => hJ.out.f7 h, f8 := fun h => hJ.out.f8 h, f9 := fun h => hJ.out.f9 h, f10 := fun h h2 => hJ.out.f10 h h2, f11 := fun h => hJ.out.f11 h, f12 := fun h => hJ.out.f12 h, f14 := fun h => hJ.out.f14 h, cq := hJ.out.cq }
    | 1, _ =>
     obtain rfl := Option.some.inj ho
     intro a9 dn vals wx hJ0 hdi hde hdj hev hsl hun
     have hJ := Lib.hid hJ0
     rw [if_pos (wanted_none rfl)]
     have f20 : (a9.tmps[20]?).getD undef = .pointer (some ⟨w1.heap.size, 0, none⟩) := (hsl 0 20 (hde 0 _ rfl rfl) rfl).trans (hJ.out.f0 (hde 0 _ rfl rfl))
     have n5 : Hid (dn 5 = false) := hdj 5 0 _ _ rfl rfl rfl rfl
     obtain ⟨k0, k1, k2, k3⟩ := (hJ.out.s0 n5.out).res
     clear hde hdj hev hsl hun hJ0 hdi
     clear n5
     go_simp
     exact { below := hJ.out.below, res := fun h h2 => hJ.out.res h h2, s0 := fun h => hJ.out.s0 h, s1 := fun h h2 => hJ.out.s1 h h2, s2 := fun h h2 => hJ.out.s2 h h2, s3 := fun h h2 => hJ.out.s3 h h2, s4 := fun h => hJ.out.s4 h, f0 := fun h => hJ.out.f0 h, f1 := fun _ => rfl, f2 := fun h => hJ.out.f2 h, f3 := fun h => hJ.out.f3 h, f4 := fun h h2 => hJ.out.f4 h h2, f5 := fun h => hJ.out.f5 h, f6 := fun h => hJ.out.f6 h, f7 := fun h => hJ.out.f7 h, f8 := fun h => hJ.out.f8 h, f9 := fun h => hJ.out.f9 h, f10 := fun h h2 => hJ.out.f10 h h2, f11 := fun h => hJ.out.f11 h, f12 := fun h => hJ.out.f12 h, f14 := fun h => hJ.out.f14 h, cq := hJ.out.cq }
    | 2, _ =>
     obtain rfl := Option.some.inj ho
     intro a9 dn vals wx hJ0 hdi hde hdj hev hsl hun
     have hJ := Lib.hid hJ0
     rw [if_pos (wanted_none rfl)]
     have f7 : (a9.tmps[7]?).getD undef = .pointer (some ⟨wr.heap.size, 0, none⟩) := hev 7 (by kernel_rfl)
     clear hde hdj hev hsl hun hJ0 hdi
     go_simp
     exact { below := hJ.out.below, res := fun h h2 => hJ.out.res h h2, s0 := fun h => hJ.out.s0 h, s1 := fun h h2 => hJ.out.s1 h h2, s2 := fun h h2 => hJ.out.s2 h h2, s3 := fun h h2 => hJ.out.s3 h h2, s4 := fun h => hJ.out.s4 h, f0 := fun h => hJ.out.f0 h, f1 := fun h => hJ.out.f1 h, f2 := fun _ => rfl, f3 := fun h => hJ.out.f3 h, f4 := fun h h2 => hJ.out.f4 h h2, f5 := fun h => hJ.out.f5 h, f6 := fun h => hJ.out.f6 h, f7 := fun h => hJ.out.f7 h, f8 := fun h => hJ.out.f8 h, f9 := fun h => hJ.out.f9 h, f10 := fun h h2 => hJ.out.f10 h h2, f11 := fun h => hJ.out.f11 h, f12 := fun h => hJ.out.f12 h, f14 := fun h => hJ.out.f14 h, cq := hJ.out.cq }
    | 3, _ =>
     obtain rfl := Option.some.inj ho
     intro a9 dn vals wx hJ0 hdi hde hdj hev hsl hun
     have hJ := Lib.hid hJ0
     rw [if_pos (wanted_none rfl)]
     have f22 : (a9.tmps[22]?).getD undef = .pointer (some ⟨wr.heap.size, 1, none⟩) := (hsl 2 22 (hde 0 _ rfl rfl) rfl).trans (hJ.out.f2 (hde 0 _ rfl rfl))
     obtain ⟨k0, k1⟩ := hJ.out.cq
     clear hde hdj hev hsl hun hJ0 hdi
     go_simp
     exact { below := hJ.out.below, res := fun h h2 => hJ.out.res h h2, s0 := fun h => hJ.out.s0 h, s1 := fun h h2 => hJ.out.s1 h h2, s2 := fun h h2 => hJ.out.s2 h h2, s3 := fun h h2 => hJ.out.s3 h h2, s4 := fun h => hJ.out.s4 h, f0 := fun h => hJ.out.f0 h, f1 := fun h => hJ.out.f1 h, f2 := fun h => hJ.out.f2 h, f3 := fun _ => rfl, f4 := fun h h2 => hJ.out.f4 h h2, f5 := fun h => hJ.out.f5 h, f6 := fun h => hJ.out.f6 h, f7 := fun h => hJ.out.f7 h, f8 := fun h => hJ.out.f8 h, f9 := fun h => hJ.out.f9 h, f10 := fun h h2 => hJ.out.f10 h h2, f11 := fun h => hJ.out.f11 h, f12 := fun h => hJ.out.f12 h, f14 := fun h => hJ.out.f14 h, cq := hJ.out.cq }
    | 4, _ =>
     obtain rfl := Option.some.inj ho
     intro a9 dn vals wx hJ0 hdi hde hdj hev hsl hun
     have hJ := Lib.hid hJ0
     rw [if_pos (wanted_none rfl)]
     have f23 : (a9.tmps[23]?).getD undef = .int .i64 xl := (hsl 3 23 (hde 0 _ rfl rfl) rfl).trans (hJ.out.f3 (hde 0 _ rfl rfl))
     have HLT : Hid (w1.heap.size < wx.heap.size) := HSZ.out wx hJ.out.below
     clear hde hdj hev hsl hun hJ0 hdi
     go_simp
     exact { below := (hJ.out.below.trans (((below_alloc _ _)).mono (HNX.out wx hJ.out.below))), res := fun h h2 => (hJ.out.res h h2).later (below_alloc _ _) HLT.out, s0 := fun h => (hJ.out.s0 h).later (below_alloc _ _), s1 := fun h h2 => (hJ.out.s1 h h2).later (below_alloc _ _), s2 := fun h h2 => (hJ.out.s2 h h2).later (below_alloc _ _), s3 := fun h h2 => (hJ.out.s3 h h2).later (below_alloc _ _), s4 := fun h => (hJ.out.s4 h).later (below_alloc _ _), f0 := fun h => hJ.out.f0 h, f1 := fun h => hJ.out.f1 h, f2 := fun h => hJ.out.f2 h, f3 := fun h => hJ.out.f3 h, f4 := fun _ _ => ⟨wx.heap.size, rfl, by rw [World.cell?_alloc_at _ _ _ _ rfl]; rfl⟩, f5 := fun h => hJ.out.f5 h, f6 := fun h => hJ.out.f6 h, f7 := fun h => hJ.out.f7 h, f8 := fun h => hJ.out.f8 h, f9 := fun h => hJ.out.f9 h, f10 := fun h h2 => let ⟨q, q1, q2, q3⟩ := hJ.out.f10 h h2; ⟨q, q1, cell_later q2 (below_alloc _ _), q3⟩, f11 := fun h => hJ.out.f11 h, f12 := fun h => hJ.out.f12 h, f14 := fun h => hJ.out.f14 h, cq := hJ.out.cq.later (below_alloc _ _) }
    | 5, _ =>
     obtain rfl := Option.some.inj ho
     intro a9 dn vals wx hJ0 hdi hde hdj hev hsl hun
     have hJ := Lib.hid hJ0
     rw [if_pos (wanted_none rfl)]
     have f21 : (a9.tmps[21]?).getD undef = v1 := (hsl 1 21 (hde 0 _ rfl rfl) rfl).trans (hJ.out.f1 (hde 0 _ rfl rfl))
     obtain ⟨b3, e3, q3⟩ := hJ.out.f4 (hde 1 _ rfl rfl) hdi
     have f24 : (a9.tmps[24]?).getD undef = .slice (some ⟨b3, 0, none⟩) 1 1 := (hsl 4 24 (hde 1 _ rfl rfl) rfl).trans e3
     have n11 : Hid (dn 11 = false) := hdj 11 2 _ _ rfl rfl rfl rfl
     have n13 : Hid (dn 13 = false) := hdj 13 1 _ _ rfl rfl rfl rfl
     have n15 : Hid (dn 15 = false) := hdj 15 8 _ _ rfl rfl rfl rfl
     have hS := hJ.out.s0 hdi
     obtain ⟨g9, cap9, w9, hrun, hown, hgr, hat, hlt9⟩ := run_append_lies (P := Tryz.prog) (w := wx) 24 24 w1.heap.size 3 i0 (.int .i64 0) 1 8 Tryz.underlying24 hi0 hz0 hz1 hz2 rfl (by decide) v1 lo.length _ hS.own1 ⟨b3, 0, none⟩ 1 1 [.int .i64 xl] rfl (fun j u hj => by
      match j, hj with
      | 0, hj => simp at hj; subst hj; exact q3) (fun u hu => by simp at hu; subst hu; rfl) (by decide) (by unfold maxLen; omega) (by omega) (HNX.out wx hJ.out.below) _ rfl
     have hS2 := hS.app1 (by decide) hown hgr hat
     have HB2 : Hid (Below w1.heap.size Wd w9) := hJ.out.below.grown hgr (HNX.out wx hJ.out.below) (fun k e => (hS.own1.lt k e).1)
     have HRUN := Lib.hid hrun
     have HS2 := Lib.hid hS2
     have HGR := Lib.hid hgr
     have HCQ2 := Lib.hid (hJ.out.cq.grown hgr HVQ1.out)
     clear hde hdj hev hsl hun hJ0 hdi
     clear hrun hown hgr hat hlt9 hS hS2 q3 e3
     refine does_append2 (s := .tmp 21) (x := .tmp 24) (T := 24) rfl (by rw [eval_tmp]; exact f21) (by rw [eval_tmp]; exact f24) HRUN.out ?_
     exact { below := HB2.out, res := fun _ _ => HS2.out.res, s0 := fun h => Bool.noConfusion h, s1 := fun _ _ => HS2.out, s2 := fun h _ => Bool.noConfusion ((show dn 11 = true from h).symm.trans n11.out), s3 := fun h _ => Bool.noConfusion ((show dn 13 = true from h).symm.trans n13.out), s4 := fun h => Bool.noConfusion ((show dn 15 = true from h).symm.trans n15.out), f0 := fun h => hJ.out.f0 h, f1 := fun h => hJ.out.f1 h, f2 := fun h => hJ.out.f2 h, f3 := fun h => hJ.out.f3 h, f4 := fun _ h => Bool.noConfusion h, f5 := fun _ => ⟨_, _, rfl⟩, f6 := fun h => hJ.out.f6 h, f7 := fun h => hJ.out.f7 h, f8 := fun h => hJ.out.f8 h, f9 := fun h => hJ.out.f9 h, f10 := fun h h2 => let ⟨q, q1, q2, q3⟩ := hJ.out.f10 h h2; ⟨q, q1, HGR.out.cell q2 (fun e => q3 e.symm), q3⟩, f11 := fun h => hJ.out.f11 h, f12 := fun h => hJ.out.f12 h, f14 := fun h => hJ.out.f14 h, cq := HCQ2.out }
    | 6, _ =>
     obtain rfl := Option.some.inj ho
     intro a9 dn vals wx hJ0 hdi hde hdj hev hsl hun
     have hJ := Lib.hid hJ0
     rw [if_pos (wanted_none rfl)]
     have f5 : (a9.tmps[5]?).getD undef = .pointer (some ⟨w1.heap.size, 0, none⟩) := hev 5 (by kernel_rfl)
     clear hde hdj hev hsl hun hJ0 hdi
     go_simp
     exact { below := hJ.out.below, res := fun h h2 => hJ.out.res h h2, s0 := fun h => hJ.out.s0 h, s1 := fun h h2 => hJ.out.s1 h h2, s2 := fun h h2 => hJ.out.s2 h h2, s3 := fun h h2 => hJ.out.s3 h h2, s4 := fun h => hJ.out.s4 h, f0 := fun h => hJ.out.f0 h, f1 := fun h => hJ.out.f1 h, f2 := fun h => hJ.out.f2 h, f3 := fun h => hJ.out.f3 h, f4 := fun h h2 => hJ.out.f4 h h2, f5 := fun h => hJ.out.f5 h, f6 := fun _ => rfl, f7 := fun h => hJ.out.f7 h, f8 := fun h => hJ.out.f8 h, f9 := fun h => hJ.out.f9 h, f10 := fun h h2 => hJ.out.f10 h h2, f11 := fun h => hJ.out.f11 h, f12 := fun h => hJ.out.f12 h, f14 := fun h => hJ.out.f14 h, cq := hJ.out.cq }
    | 7, _ =>
     obtain rfl := Option.some.inj ho
     intro a9 dn vals wx hJ0 hdi hde hdj hev hsl hun
     have hJ := Lib.hid hJ0
     rw [if_pos (wanted_none rfl)]
     have f26 : (a9.tmps[26]?).getD undef = .pointer (some ⟨w1.heap.size, 1, none⟩) := (hsl 6 26 (hde 0 _ rfl rfl) rfl).trans (hJ.out.f6 (hde 0 _ rfl rfl))
     have n13 : Hid (dn 13 = false) := hdj 13 10 _ _ rfl rfl rfl rfl
     have n15 : Hid (dn 15 = false) := hdj 15 10 _ _ rfl rfl rfl rfl
     obtain ⟨k0, k1, k2, k3⟩ := hJ.out.res n13.out n15.out
     clear hde hdj hev hsl hun hJ0 hdi
     clear n13 n15
     go_simp
     exact { below := hJ.out.below, res := fun h h2 => hJ.out.res h h2, s0 := fun h => hJ.out.s0 h, s1 := fun h h2 => hJ.out.s1 h h2, s2 := fun h h2 => hJ.out.s2 h h2, s3 := fun h h2 => hJ.out.s3 h h2, s4 := fun h => hJ.out.s4 h, f0 := fun h => hJ.out.f0 h, f1 := fun h => hJ.out.f1 h, f2 := fun h => hJ.out.f2 h, f3 := fun h => hJ.out.f3 h, f4 := fun h h2 => hJ.out.f4 h h2, f5 := fun h => hJ.out.f5 h, f6 := fun h => hJ.out.f6 h, f7 := fun _ => rfl, f8 := fun h => hJ.out.f8 h, f9 := fun h => hJ.out.f9 h, f10 := fun h h2 => hJ.out.f10 h h2, f11 := fun h => hJ.out.f11 h, f12 := fun h => hJ.out.f12 h, f14 := fun h => hJ.out.f14 h, cq := hJ.out.cq }
    | 8, _ =>
     obtain rfl := Option.some.inj ho
     intro a9 dn vals wx hJ0 hdi hde hdj hev hsl hun
     have hJ := Lib.hid hJ0
     rw [if_pos (wanted_none rfl)]
     have f7 : (a9.tmps[7]?).getD undef = .pointer (some ⟨wr.heap.size, 0, none⟩) := hev 7 (by kernel_rfl)
     clear hde hdj hev hsl hun hJ0 hdi
     go_simp
     exact { below := hJ.out.below, res := fun h h2 => hJ.out.res h h2, s0 := fun h => hJ.out.s0 h, s1 := fun h h2 => hJ.out.s1 h h2, s2 := fun h h2 => hJ.out.s2 h h2, s3 := fun h h2 => hJ.out.s3 h h2, s4 := fun h => hJ.out.s4 h, f0 := fun h => hJ.out.f0 h, f1 := fun h => hJ.out.f1 h, f2 := fun h => hJ.out.f2 h, f3 := fun h => hJ.out.f3 h, f4 := fun h h2 => hJ.out.f4 h h2, f5 := fun h => hJ.out.f5 h, f6 := fun h => hJ.out.f6 h, f7 := fun h => hJ.out.f7 h, f8 := fun _ => rfl, f9 := fun h => hJ.out.f9 h, f10 := fun h h2 => hJ.out.f10 h h2, f11 := fun h => hJ.out.f11 h, f12 := fun h => hJ.out.f12 h, f14 := fun h => hJ.out.f14 h, cq := hJ.out.cq }
    | 9, _ =>
     obtain rfl := Option.some.inj ho
     intro a9 dn vals wx hJ0 hdi hde hdj hev hsl hun
     have hJ := Lib.hid hJ0
     rw [if_pos (wanted_none rfl)]
     have f28 : (a9.tmps[28]?).getD undef = .pointer (some ⟨wr.heap.size, 2, none⟩) := (hsl 8 28 (hde 0 _ rfl rfl) rfl).trans (hJ.out.f8 (hde 0 _ rfl rfl))
     obtain ⟨k0, k1⟩ := hJ.out.cq
     clear hde hdj hev hsl hun hJ0 hdi
     go_simp
     exact { below := hJ.out.below, res := fun h h2 => hJ.out.res h h2, s0 := fun h => hJ.out.s0 h, s1 := fun h h2 => hJ.out.s1 h h2, s2 := fun h h2 => hJ.out.s2 h h2, s3 := fun h h2 => hJ.out.s3 h h2, s4 := fun h => hJ.out.s4 h, f0 := fun h => hJ.out.f0 h, f1 := fun h => hJ.out.f1 h, f2 := fun h => hJ.out.f2 h, f3 := fun h => hJ.out.f3 h, f4 := fun h h2 => hJ.out.f4 h h2, f5 := fun h => hJ.out.f5 h, f6 := fun h => hJ.out.f6 h, f7 := fun h => hJ.out.f7 h, f8 := fun h => hJ.out.f8 h, f9 := fun _ => rfl, f10 := fun h h2 => hJ.out.f10 h h2, f11 := fun h => hJ.out.f11 h, f12 := fun h => hJ.out.f12 h, f14 := fun h => hJ.out.f14 h, cq := hJ.out.cq }
    | 10, _ =>
     obtain rfl := Option.some.inj ho
     intro a9 dn vals wx hJ0 hdi hde hdj hev hsl hun
     have hJ := Lib.hid hJ0
     rw [if_pos (wanted_none rfl)]
     have f29 : (a9.tmps[29]?).getD undef = .int .i64 xh := (hsl 9 29 (hde 0 _ rfl rfl) rfl).trans (hJ.out.f9 (hde 0 _ rfl rfl))
     have HLT : Hid (w1.heap.size < wx.heap.size) := HSZ.out wx hJ.out.below
     clear hde hdj hev hsl hun hJ0 hdi
     go_simp
     exact { below := (hJ.out.below.trans (((below_alloc _ _)).mono (HNX.out wx hJ.out.below))), res := fun h h2 => (hJ.out.res h h2).later (below_alloc _ _) HLT.out, s0 := fun h => (hJ.out.s0 h).later (below_alloc _ _), s1 := fun h h2 => (hJ.out.s1 h h2).later (below_alloc _ _), s2 := fun h h2 => (hJ.out.s2 h h2).later (below_alloc _ _), s3 := fun h h2 => (hJ.out.s3 h h2).later (below_alloc _ _), s4 := fun h => (hJ.out.s4 h).later (below_alloc _ _), f0 := fun h => hJ.out.f0 h, f1 := fun h => hJ.out.f1 h, f2 := fun h => hJ.out.f2 h, f3 := fun h => hJ.out.f3 h, f4 := fun h h2 => let ⟨q, q1, q2⟩ := hJ.out.f4 h h2; ⟨q, q1, cell_later q2 (below_alloc _ _)⟩, f5 := fun h => hJ.out.f5 h, f6 := fun h => hJ.out.f6 h, f7 := fun h => hJ.out.f7 h, f8 := fun h => hJ.out.f8 h, f9 := fun h => hJ.out.f9 h, f10 := fun _ _ => ⟨wx.heap.size, rfl, by rw [World.cell?_alloc_at _ _ _ _ rfl]; rfl, HV1.out wx hJ.out.below⟩, f11 := fun h => hJ.out.f11 h, f12 := fun h => hJ.out.f12 h, f14 := fun h => hJ.out.f14 h, cq := hJ.out.cq.later (below_alloc _ _) }
    | 11, _ =>
     obtain rfl := Option.some.inj ho
     intro a9 dn vals wx hJ0 hdi hde hdj hev hsl hun
     have hJ := Lib.hid hJ0
     rw [if_pos (wanted_none rfl)]
     have f27 : (a9.tmps[27]?).getD undef = v2 := (hsl 7 27 (hde 0 _ rfl rfl) rfl).trans (hJ.out.f7 (hde 0 _ rfl rfl))
     obtain ⟨b8, e8, q8, k8⟩ := hJ.out.f10 (hde 1 _ rfl rfl) hdi
     have f30 : (a9.tmps[30]?).getD undef = .slice (some ⟨b8, 0, none⟩) 1 1 := (hsl 10 30 (hde 1 _ rfl rfl) rfl).trans e8
     have d5 : Hid (dn 5 = true) := hde 2 _ rfl rfl
     have n13 : Hid (dn 13 = false) := hdj 13 2 _ _ rfl rfl rfl rfl
     have n15 : Hid (dn 15 = false) := hdj 15 1 _ _ rfl rfl rfl rfl
     have hS := hJ.out.s1 d5.out hdi
     obtain ⟨g9, cap9, w9, hrun, hown, hgr, hat, hlt9⟩ := run_append_lies (P := Tryz.prog) (w := wx) 24 24 w1.heap.size 3 i0 (.int .i64 0) 1 8 Tryz.underlying24 hi0 hz0 hz1 hz2 rfl (by decide) v2 hi.length _ hS.own2 ⟨b8, 0, none⟩ 1 1 [.int .i64 xh] rfl (fun j u hj => by
      match j, hj with
      | 0, hj => simp at hj; subst hj; exact q8) (fun u hu => by simp at hu; subst hu; rfl) (by decide) (by unfold maxLen; omega) (by omega) (HNX.out wx hJ.out.below) _ rfl
     have hS2 := hS.app2 (by decide) hown hgr hat
     have HB2 : Hid (Below w1.heap.size Wd w9) := hJ.out.below.grown hgr (HNX.out wx hJ.out.below) (fun k e => (hS.own2.lt k e).1)
     have HRUN := Lib.hid hrun
     have HS2 := Lib.hid hS2
     have HCQ2 := Lib.hid (hJ.out.cq.grown hgr HVQ2.out)
     clear hde hdj hev hsl hun hJ0 hdi
     clear hrun hown hgr hat hlt9 hS hS2 q8 e8 k8
     refine does_append2 (s := .tmp 27) (x := .tmp 30) (T := 24) rfl (by rw [eval_tmp]; exact f27) (by rw [eval_tmp]; exact f30) HRUN.out ?_
     exact { below := HB2.out, res := fun _ _ => HS2.out.res, s0 := fun h => Bool.noConfusion ((show dn 5 = false from h).symm.trans d5.out), s1 := fun _ h => Bool.noConfusion h, s2 := fun _ _ => HS2.out, s3 := fun h _ => Bool.noConfusion ((show dn 13 = true from h).symm.trans n13.out), s4 := fun h => Bool.noConfusion ((show dn 15 = true from h).symm.trans n15.out), f0 := fun h => hJ.out.f0 h, f1 := fun h => hJ.out.f1 h, f2 := fun h => hJ.out.f2 h, f3 := fun h => hJ.out.f3 h, f4 := fun _ h => Bool.noConfusion ((show dn 5 = false from h).symm.trans d5.out), f5 := fun h => hJ.out.f5 h, f6 := fun h => hJ.out.f6 h, f7 := fun h => hJ.out.f7 h, f8 := fun h => hJ.out.f8 h, f9 := fun h => hJ.out.f9 h, f10 := fun _ h => Bool.noConfusion h, f11 := fun _ => ⟨_, _, rfl⟩, f12 := fun h => hJ.out.f12 h, f14 := fun h => hJ.out.f14 h, cq := HCQ2.out }
    | 12, _ =>
     obtain rfl := Option.some.inj ho
     intro a9 dn vals wx hJ0 hdi hde hdj hev hsl hun
     have hJ := Lib.hid hJ0
     rw [if_pos (wanted_none rfl)]
     have f5 : (a9.tmps[5]?).getD undef = .pointer (some ⟨w1.heap.size, 0, none⟩) := hev 5 (by kernel_rfl)
     clear hde hdj hev hsl hun hJ0 hdi
     go_simp
     exact { below := hJ.out.below, res := fun h h2 => hJ.out.res h h2, s0 := fun h => hJ.out.s0 h, s1 := fun h h2 => hJ.out.s1 h h2, s2 := fun h h2 => hJ.out.s2 h h2, s3 := fun h h2 => hJ.out.s3 h h2, s4 := fun h => hJ.out.s4 h, f0 := fun h => hJ.out.f0 h, f1 := fun h => hJ.out.f1 h, f2 := fun h => hJ.out.f2 h, f3 := fun h => hJ.out.f3 h, f4 := fun h h2 => hJ.out.f4 h h2, f5 := fun h => hJ.out.f5 h, f6 := fun h => hJ.out.f6 h, f7 := fun h => hJ.out.f7 h, f8 := fun h => hJ.out.f8 h, f9 := fun h => hJ.out.f9 h, f10 := fun h h2 => hJ.out.f10 h h2, f11 := fun h => hJ.out.f11 h, f12 := fun _ => rfl, f14 := fun h => hJ.out.f14 h, cq := hJ.out.cq }
    | 13, _ =>
     obtain rfl := Option.some.inj ho
     intro a9 dn vals wx hJ0 hdi hde hdj hev hsl hun
     have hJ := Lib.hid hJ0
     rw [if_pos (wanted_none rfl)]
     have f32 : (a9.tmps[32]?).getD undef = .pointer (some ⟨w1.heap.size, 0, none⟩) := (hsl 12 32 (hde 0 _ rfl rfl) rfl).trans (hJ.out.f12 (hde 0 _ rfl rfl))
     obtain ⟨b4, cp4, e4⟩ := hJ.out.f5 (hde 1 _ rfl rfl)
     have f25 : (a9.tmps[25]?).getD undef = .slice (some ⟨b4, 0, none⟩) (lo.length + 1) cp4 := (hsl 5 25 (hde 1 _ rfl rfl) rfl).trans e4
     have d5 : Hid (dn 5 = true) := hde 1 _ rfl rfl
     have d11 : Hid (dn 11 = true) := hde 2 _ rfl rfl
     have n15 : Hid (dn 15 = false) := hdj 15 2 _ _ rfl rfl rfl rfl
     have hS := hJ.out.s2 d11.out hdi
     obtain ⟨k0, k1, k2, k3⟩ := hS.res
     have hS2 := hS.st1 (by decide)
     rw [e4] at hS2
     have HS2 := Lib.hid hS2
     have E4 := Lib.hid e4
     have HB2 : Hid (Below w1.heap.size Wd (wx.setCell ⟨w1.heap.size, 0, none⟩ (.slice (some ⟨b4, 0, none⟩) (lo.length + 1) cp4))) := hJ.out.below.setCell (p := ⟨w1.heap.size, 0, none⟩) HGN.out _
     clear hde hdj hev hsl hun hJ0 hdi
     clear hS hS2 e4
     go_simp
     exact { below := HB2.out, res := fun h _ => Bool.noConfusion h, s0 := fun h => Bool.noConfusion ((show dn 5 = false from h).symm.trans d5.out), s1 := fun _ h => Bool.noConfusion ((show dn 11 = false from h).symm.trans d11.out), s2 := fun _ h => Bool.noConfusion h, s3 := fun _ _ => by show BoxA _ _ _ (vals 5) _ (vals 5) (vals 11) _ _; rw [E4.out]; exact HS2.out, s4 := fun h => Bool.noConfusion ((show dn 15 = true from h).symm.trans n15.out), f0 := fun h => hJ.out.f0 h, f1 := fun h => hJ.out.f1 h, f2 := fun h => hJ.out.f2 h, f3 := fun h => hJ.out.f3 h, f4 := fun _ h => Bool.noConfusion ((show dn 5 = false from h).symm.trans d5.out), f5 := fun h => hJ.out.f5 h, f6 := fun h => hJ.out.f6 h, f7 := fun h => hJ.out.f7 h, f8 := fun h => hJ.out.f8 h, f9 := fun h => hJ.out.f9 h, f10 := fun _ h => Bool.noConfusion ((show dn 11 = false from h).symm.trans d11.out), f11 := fun h => hJ.out.f11 h, f12 := fun h => hJ.out.f12 h, f14 := fun h => hJ.out.f14 h, cq := hJ.out.cq.set HQG.out }
    | 14, _ =>
     obtain rfl := Option.some.inj ho
     intro a9 dn vals wx hJ0 hdi hde hdj hev hsl hun
     have hJ := Lib.hid hJ0
     rw [if_pos (wanted_none rfl)]
     have f5 : (a9.tmps[5]?).getD undef = .pointer (some ⟨w1.heap.size, 0, none⟩) := hev 5 (by kernel_rfl)
     clear hde hdj hev hsl hun hJ0 hdi
     go_simp
     exact { below := hJ.out.below, res := fun h h2 => hJ.out.res h h2, s0 := fun h => hJ.out.s0 h, s1 := fun h h2 => hJ.out.s1 h h2, s2 := fun h h2 => hJ.out.s2 h h2, s3 := fun h h2 => hJ.out.s3 h h2, s4 := fun h => hJ.out.s4 h, f0 := fun h => hJ.out.f0 h, f1 := fun h => hJ.out.f1 h, f2 := fun h => hJ.out.f2 h, f3 := fun h => hJ.out.f3 h, f4 := fun h h2 => hJ.out.f4 h h2, f5 := fun h => hJ.out.f5 h, f6 := fun h => hJ.out.f6 h, f7 := fun h => hJ.out.f7 h, f8 := fun h => hJ.out.f8 h, f9 := fun h => hJ.out.f9 h, f10 := fun h h2 => hJ.out.f10 h h2, f11 := fun h => hJ.out.f11 h, f12 := fun h => hJ.out.f12 h, f14 := fun _ => rfl, cq := hJ.out.cq }
    | 15, _ =>
     obtain rfl := Option.some.inj ho
     intro a9 dn vals wx hJ0 hdi hde hdj hev hsl hun
     have hJ := Lib.hid hJ0
     rw [if_pos (wanted_none rfl)]
     have f33 : (a9.tmps[33]?).getD undef = .pointer (some ⟨w1.heap.size, 1, none⟩) := (hsl 14 33 (hde 0 _ rfl rfl) rfl).trans (hJ.out.f14 (hde 0 _ rfl rfl))
     obtain ⟨b9, cp9, e9⟩ := hJ.out.f11 (hde 1 _ rfl rfl)
     have f31 : (a9.tmps[31]?).getD undef = .slice (some ⟨b9, 0, none⟩) (hi.length + 1) cp9 := (hsl 11 31 (hde 1 _ rfl rfl) rfl).trans e9
     have d5 : Hid (dn 5 = true) := hde 8 _ rfl rfl
     have d11 : Hid (dn 11 = true) := hde 1 _ rfl rfl
     have d13 : Hid (dn 13 = true) := hde 2 _ rfl rfl
     have hS := hJ.out.s3 d13.out hdi
     obtain ⟨k0, k1, k2, k3⟩ := hS.res
     have hS2 := hS.st2 (by decide)
     rw [e9] at hS2
     have HS2 := Lib.hid hS2
     have E9 := Lib.hid e9
     have HB2 : Hid (Below w1.heap.size Wd (wx.setCell ⟨w1.heap.size, 1, none⟩ (.slice (some ⟨b9, 0, none⟩) (hi.length + 1) cp9))) := hJ.out.below.setCell (p := ⟨w1.heap.size, 1, none⟩) HGN.out _
     obtain ⟨b4, cp4, e4⟩ := hJ.out.f5 d5.out
     rw [e4] at k0
     have E4 := Lib.hid e4
     clear hde hdj hev hsl hun hJ0 hdi
     clear hS hS2 e9 e4
     go_simp
     exact { below := HB2.out, res := fun _ h => Bool.noConfusion h, s0 := fun h => Bool.noConfusion ((show dn 5 = false from h).symm.trans d5.out), s1 := fun _ h => Bool.noConfusion ((show dn 11 = false from h).symm.trans d11.out), s2 := fun _ h => Bool.noConfusion ((show dn 13 = false from h).symm.trans d13.out), s3 := fun _ h => Bool.noConfusion h, s4 := fun _ => by show BoxA _ _ _ (vals 5) (vals 11) (vals 5) (vals 11) _ _; rw [E9.out]; exact HS2.out, f0 := fun h => hJ.out.f0 h, f1 := fun h => hJ.out.f1 h, f2 := fun h => hJ.out.f2 h, f3 := fun h => hJ.out.f3 h, f4 := fun _ h => Bool.noConfusion ((show dn 5 = false from h).symm.trans d5.out), f5 := fun h => hJ.out.f5 h, f6 := fun h => hJ.out.f6 h, f7 := fun h => hJ.out.f7 h, f8 := fun h => hJ.out.f8 h, f9 := fun h => hJ.out.f9 h, f10 := fun _ h => Bool.noConfusion ((show dn 11 = false from h).symm.trans d11.out), f11 := fun h => hJ.out.f11 h, f12 := fun h => hJ.out.f12 h, f14 := fun h => hJ.out.f14 h, cq := hJ.out.cq.set HQG.out }
   ·intro dn vals wx hall hJ
    have hS := hJ.s4 (hall 15 (by decide))
    have g0 := hJ.f0 (hall 0 (by decide))
    have g1 := hJ.f1 (hall 1 (by decide))
    have g2 := hJ.f2 (hall 2 (by decide))
    have g3 := hJ.f3 (hall 3 (by decide))
    have g6 := hJ.f6 (hall 6 (by decide))
    have g7 := hJ.f7 (hall 7 (by decide))
    have g8 := hJ.f8 (hall 8 (by decide))
    have g9 := hJ.f9 (hall 9 (by decide))
    have g12 := hJ.f12 (hall 12 (by decide))
    have g14 := hJ.f14 (hall 14 (by decide))
    obtain ⟨b4, cp4, g5⟩ := hJ.f5 (hall 5 (by decide))
    obtain ⟨b9, cp9, g11⟩ := hJ.f11 (hall 11 (by decide))
    rw [g5, g11] at hS
    have HS9 := Lib.hid hS.to
    have HB9 := Lib.hid hJ.below
    simp only [putDs, Act.put, Nat.zero_add, Nat.reduceAdd, List.setIfInBounds_toArray, List.set_cons_succ, List.set_cons_zero, g0, g1, g2, g3, g5, g6, g7, g8, g9, g11, g12, g14]
    clear g0 g1 g2 g3 g5 g6 g7 g8 g9 g11 g12 g14 hS hJ hall
    have HB5 := Lib.hid (HBC.out.trans HB9.out)
    rw [← HM1.out, ← HM2.out] at HS9
    go_wp2
    exact ⟨⟨i + 1, _, _, HI1.out.1, by go_num, HS9.out, HB5.out⟩, HI1.out.2⟩
  ·obtain rfl : i = d.length := by omega
   have ht1 : (d.map DimT.lo).take d.length = d.map DimT.lo := List.take_of_length_le (by simp)
   have ht2 : (d.map DimT.hi).take d.length = d.map DimT.hi := List.take_of_length_le (by simp)
   rw [ht1, ht2] at HBO
   obtain ⟨⟨f0, f1, f2, f3⟩, ow1, ow2, hap, htg⟩ := HBO.out
   obtain ⟨r0, r1, r2, r3⟩ := HR0.out.later HBR.out HS1.out
   have h1 := RowZ.append_owns ow1 rfl
   have h2 := RowZ.append_owns ow2 rfl
   have H1 := Lib.hid h1
   have H2 := Lib.hid h2
   obtain ⟨q1, k1, e1, -⟩ := h1.ints.shape
   obtain ⟨q2, k2, e2, -⟩ := h2.ints.shape
   have hltw : w.heap.size < wr.heap.size := World.block_lt_of_cell? _ _ r0
   have HNG : Hid (∀ (v : Value) (n : Nat) (xs : List Value), wr.ownsRow w1.heap.size 3 1 v n xs → ∀ b, v.ownBlock = some b → b ≠ w.heap.size) := fun v n xs h b hb => by
    have := (h.lt b hb).1
    have := HS1.out
    omega
   have HK1 := Lib.hid (HNG.out v1 _ _ ow1)
   have HK2 := Lib.hid (HNG.out v2 _ _ ow2)
   clear ow1 ow2 hap htg h1 h2 ht1 ht2
   rw [List.length_map] at e1 e2
   subst e1 e2
   go_wp2
   refine bodyPost_ret (by simp [results, Tryz.results30, go_sem, r0, r1]; try rfl) rfl ?_
   have hk : ∀ (x : Value) (l : List Int) (u u' : Value), IntsO wr x l → (∀ b, x.ownBlock = some b → b ≠ w.heap.size) → IntsO ((wr.setCell ⟨w.heap.size, 0, none⟩ u).setCell ⟨w.heap.size, 1, none⟩ u') x l := fun x l u u' h hne =>
    (h.grown (grown_setG wr w.heap.size 0 u) (fun r er e2 => by cases er; exact hne _ e2 rfl)).grown (grown_setG _ w.heap.size 1 u') (fun r er e2 => by cases er; exact hne _ e2 rfl)
   exact ⟨_, _, rfl, hk _ _ _ _ H1.out HK1.out, hk _ _ _ _ H2.out HK2.out, (HBW.out.setCell (by simp) _).setCell (by simp) _⟩
theorem wholeBox_any (d : List DimT) (v : Value) (w : World) (hd : Dims w v d) (hs : StrD d) :
  Calls Tryz.prog 30 #[v] w (RetBx (wholeB d) (dimsE d) w) := by
 unfold wholeB
 by_cases h : dimsE d = 0
 ·rw [if_pos h, h]; exact whole_core d v w hd hs h
 ·rw [if_neg h]; exact whole_bad d v w hd hs h
end Go.Proofs.YtebpfbgaafchjaaGreatDoor
/- A drawn region of reads and calls whose last steps are: a list of one element is built, appended to the first list of a box, and stored. -/
namespace Go.Proofs.YtebpfbgaafchjaaGreatDoor
open Go.RowKit

structure Ap1J (VL : List (Option Value)) (jb ja js n₀ g : Nat) (W0 : World) (v1 v2 : Value) (lo hi : List Int) (M : Int) (dn : Nat → Bool) (vals : Nat → Value) (w : World) : Prop where
 below : Below n₀ W0 w
 s0 : dn ja = false → dn js = false → BoxA n₀ g w v1 v2 v1 v2 lo hi
 s1 : dn ja = true → dn js = false → BoxA n₀ g w v1 v2 (vals ja) v2 (lo ++ [M]) hi
 s2 : dn ja = true → dn js = true → BoxA n₀ g w (vals ja) v2 (vals ja) v2 (lo ++ [M]) hi
 fb : dn jb = true → dn ja = false → ∃ b, vals jb = .slice (some ⟨b, 0, none⟩) 1 1 ∧ w.cell? ⟨b, 0, none⟩ = some (.int .i64 M)
 fa : dn ja = true → ∃ b cap, vals ja = .slice (some ⟨b, 0, none⟩) (lo.length + 1) cap
 fv : Told VL dn vals
section
variable {VL : List (Option Value)} {jb ja js n₀ g : Nat} {W0 : World} {v1 v2 : Value} {lo hi : List Int} {M : Int} {dn : Nat → Bool} {vals : Nat → Value} {w : World}
theorem Ap1J.start (hb : Below n₀ W0 w) (h : BoxA n₀ g w v1 v2 v1 v2 lo hi) : Ap1J VL jb ja js n₀ g W0 v1 v2 lo hi M (fun _ => false) (fun _ => undef) w :=
 ⟨hb, fun _ _ => h, fun h => Bool.noConfusion h, fun h => Bool.noConfusion h, fun h => Bool.noConfusion h, fun h => Bool.noConfusion h, fun _ _ _ h => Bool.noConfusion h⟩
theorem Ap1J.read (h : Ap1J VL jb ja js n₀ g W0 v1 v2 lo hi M dn vals w) {i : Nat} {v : Value} {w' : World} (hb : jb ≠ i) (ha : ja ≠ i) (hs : js ≠ i) (hv : VL[i]? = some (some v)) (hw : Below w.heap.size w w') (hn : n₀ ≤ w.heap.size) :
  Ap1J VL jb ja js n₀ g W0 v1 v2 lo hi M (upd dn i) (updV vals i v) w' := by
 refine ⟨h.below.trans (hw.mono hn), ?_, ?_, ?_, ?_, ?_, h.fv.step (.inl hv)⟩
 ·rw [upd_ne ha, upd_ne hs]; exact fun h1 h2 => (h.s0 h1 h2).later hw
 ·rw [upd_ne ha, upd_ne hs, updV_ne ha]; exact fun h1 h2 => (h.s1 h1 h2).later hw
 ·rw [upd_ne ha, upd_ne hs, updV_ne ha]; exact fun h1 h2 => (h.s2 h1 h2).later hw
 ·rw [upd_ne ha, upd_ne hb, updV_ne hb]
  intro h1 h2
  obtain ⟨b, e, hc⟩ := h.fb h1 h2
  exact ⟨b, e, cell_later hc hw⟩
 ·rw [upd_ne ha, updV_ne ha]; exact h.fa
theorem Ap1J.build (h : Ap1J VL jb ja js n₀ g W0 v1 v2 lo hi M dn vals w) (hba : ja ≠ jb) (hbs : js ≠ jb) (hv : VL[jb]? = some none) (hn : n₀ ≤ w.heap.size) :
  Ap1J VL jb ja js n₀ g W0 v1 v2 lo hi M (upd dn jb) (updV vals jb (.slice (some ⟨w.heap.size, 0, none⟩) 1 1)) (w.alloc (.cells #[.int .i64 M] 3)) := by
 have hw : Below w.heap.size w (w.alloc (.cells #[.int .i64 M] 3)) := below_alloc _ _
 refine ⟨h.below.trans (hw.mono hn), ?_, ?_, ?_, ?_, ?_, h.fv.step (.inr hv)⟩
 ·rw [upd_ne hba, upd_ne hbs]; exact fun h1 h2 => (h.s0 h1 h2).later hw
 ·rw [upd_ne hba, upd_ne hbs, updV_ne hba]; exact fun h1 h2 => (h.s1 h1 h2).later hw
 ·rw [upd_ne hba, upd_ne hbs, updV_ne hba]; exact fun h1 h2 => (h.s2 h1 h2).later hw
 ·intro _ _
  exact ⟨_, updV_at, by rw [World.cell?_alloc_at _ _ _ _ rfl]; rfl⟩
 ·rw [upd_ne hba, updV_ne hba]; exact h.fa
theorem Ap1J.append (h : Ap1J VL jb ja js n₀ g W0 v1 v2 lo hi M dn vals w) (hsa : js ≠ ja) (hv : VL[ja]? = some none) (hn : n₀ ≤ w.heap.size) (hda : dn ja = false) (hds : dn js = false) {g1 cap : Nat} {w1 : World}
  (hown : w1.ownsRow n₀ 3 1 (.slice (some ⟨g1, 0, none⟩) (lo.length + 1) cap) (lo.length + 1) (lo.map (Value.int .i64) ++ [.int .i64 M])) (hg : w.grownBy w1 v1.ownBlock) (hat : v1.ownBlock = some g1 ∨ g1 = w.heap.size) :
  Ap1J VL jb ja js n₀ g W0 v1 v2 lo hi M (upd dn ja) (updV vals ja (.slice (some ⟨g1, 0, none⟩) (lo.length + 1) cap)) w1 := by
 have hS := h.s0 hda hds
 refine ⟨h.below.grown hg hn (fun k e => (hS.own1.lt k e).1), ?_, ?_, ?_, ?_, ?_, h.fv.step (.inr hv)⟩
 ·rw [upd_at]; exact fun h => Bool.noConfusion h
 ·rw [updV_at]; exact fun _ _ => hS.app1 (by decide) hown hg hat
 ·rw [upd_ne hsa, hds]; exact fun _ h => Bool.noConfusion h
 ·rw [upd_at]; exact fun _ h => Bool.noConfusion h
 ·intro _; rw [updV_at]; exact ⟨_, _, rfl⟩
theorem Ap1J.store (h : Ap1J VL jb ja js n₀ g W0 v1 v2 lo hi M dn vals w) (has : ja ≠ js) (hv : VL[js]? = some none) (hg : n₀ ≤ g) (hda : dn ja = true) (hds : dn js = false) {u : Value} (hu : vals ja = u) {v : Value} :
  Ap1J VL jb ja js n₀ g W0 v1 v2 lo hi M (upd dn js) (updV vals js v) (w.setCell ⟨g, 0, none⟩ u) := by
 subst hu
 have hS := (h.s1 hda hds).st1 (by decide)
 refine ⟨h.below.setCell (p := ⟨g, 0, none⟩) hg _, ?_, ?_, ?_, ?_, ?_, h.fv.step (.inr hv)⟩
 ·rw [upd_at]; exact fun _ h => Bool.noConfusion h
 ·rw [upd_at]; exact fun _ h => Bool.noConfusion h
 ·rw [updV_ne has]; exact fun _ _ => hS
 ·rw [upd_ne has, hda]; exact fun _ h => Bool.noConfusion h
 ·rw [upd_ne has, updV_ne has]; exact h.fa
end
end Go.Proofs.YtebpfbgaafchjaaGreatDoor
/- The reference's Whole: the contract. (printed by rwhole.py) -/
namespace Go.Proofs.YtebpfbgaafchjaaGreatDoor
open Go.RowKit Go.Shelf
attribute [local go_sem] Oper.semAt_some

theorem rwhole_bad (d : List DimT) (v : Value) (w : World) (hd : Dims w v d) (hs : StrD d) (h : dimsE d ≠ 0) :
  Calls Tryz.prog 31 #[v] w (RetBx ([], []) (dimsE d) w) := by
 have C := Lib.hid (fun w1 (hb : Below w.heap.size w w1) => rdims_any d v w1 (hd.later DimR.lasts hb) hs)
 obtain ⟨p1, cap1, rfl, -⟩ := hd.shape
 have hne : (dimsE d != 0) = true := by rw [bne_iff_ne]; exact h
 generalize dimsE d = r at *
 clear hd hs h
 go_enter Tryz.func31, Tryz.ntmps31
 go_wp2_with fail
 refine (C.out _ (below_alloc _ _)).mono ?_
 rintro e w1 ⟨rfl, hb⟩
 have HB := Lib.hid ((below_alloc _ _).trans (hb.mono (by simp)))
 obtain ⟨r0, r1, r2, r3⟩ := (ResB.made w 26).later hb (by simp)
 clear hb C
 go_wp2
 refine bodyPost_ret (by simp [results, Tryz.results31, go_sem, r0, r1]; try rfl) rfl ?_
 exact ⟨_, _, rfl, IntsO.nil _, IntsO.nil _, (HB.out.setCell (by simp) _).setCell (by simp) _⟩
set_option maxHeartbeats 32000000 in
set_option maxRecDepth 100000 in
theorem rwhole_core (d : List DimT) (v : Value) (w : World) (hd : Dims w v d) (hs : StrD d) (h : dimsE d = 0) :
  Calls Tryz.prog 31 #[v] w (RetBx (d.map DimT.lo, d.map DimT.hi) 0 w) := by
 have C := Lib.hid (fun w1 (hb : Below w.heap.size w w1) => rdims_any d v w1 (hd.later DimR.lasts hb) hs)
 rw [h] at C
 have hd4 := (dims_good h).2.1
 have HDD := Lib.hid hd
 obtain ⟨p1, cap1, rfl, -⟩ := hd.shape
 obtain ⟨i0, hi0, hz0, hz1, hz2⟩ := info_parts infoZ
 clear hd hs h
 go_enter Tryz.func31, Tryz.ntmps31
 go_wp2_with fail
 refine (C.out _ (below_alloc _ _)).mono ?_
 rintro e w1 ⟨rfl, hb⟩
 have HB := Lib.hid ((below_alloc w (.cells #[.slice none 0 0, .slice none 0 0] 26)).trans (hb.mono (by simp)))
 have HR0 := Lib.hid ((ResB.made w 26).later hb (by simp))
 have HS1 : Hid (w.heap.size < w1.heap.size) := by show _ < _; have := hb.size; simp at this; omega
 clear hb C
 go_wp2
 have HBO : Hid (BoxO w1.heap.size w1.heap.size (w1.alloc (.cells #[.slice none 0 0, .slice none 0 0] 26)) (.slice none 0 0) (.slice none 0 0) [] []) :=
  ⟨ResB.made w1 _, World.ownsRow_nil _ _ _ _, World.ownsRow_nil _ _ _ _, (fun b hb => by cases hb), ⟨_, (0, 0), World.alloc_heap_new w1 _⟩⟩
 have HAB := Lib.hid (below_alloc w1 (.cells #[.slice none 0 0, .slice none 0 0] 26))
 go_loopw [6] (fun iv wr => ∃ (i : Nat) (v1 v2 : Value), i ≤ d.length ∧ iv = .int .i64 (i : Nat) ∧ BoxO w1.heap.size w1.heap.size wr v1 v2 ((d.map DimT.lo).take i) ((d.map DimT.hi).take i) ∧ Below w1.heap.size w1 wr) (fun iv _ => d.length - (intOf iv).toNat)
 case atStart => exact ⟨0, _, _, Nat.zero_le _, rfl, HBO.out, HAB.out⟩
 case round =>
  clear HBO HAB
  obtain ⟨i, v1, v2, hi', rfl, hbo, hb⟩ := hrel
  have HBO := Lib.hid hbo
  have HBR := Lib.hid hb
  have HBW := Lib.hid (HB.out.trans (hb.mono (Nat.le_of_lt HS1.out)))
  clear hbo hb
  by_cases hlt : i < d.length
  ·obtain ⟨gd, od, x, ea, hx, hr0⟩ := HDD.out.at i hlt
   subst ea
   have HDR := Lib.hid (fun w9 (h9 : Below w.heap.size w w9) => DimR.lasts _ _ _ _ _ hr0 h9)
   have HM1 := Lib.hid (map_snoc DimT.lo hx)
   have HM2 := Lib.hid (map_snoc DimT.hi hx)
   obtain ⟨lo, hlo⟩ : ∃ lo, lo = (d.map DimT.lo).take i := ⟨_, rfl⟩
   obtain ⟨hi, hhi⟩ : ∃ hi, hi = (d.map DimT.hi).take i := ⟨_, rfl⟩
   have HLN : Hid (lo.length = i ∧ hi.length = i) := by
    refine ⟨?_, ?_⟩
    ·rw [hlo, List.length_take, List.length_map]; omega
    ·rw [hhi, List.length_take, List.length_map]; omega
   rw [← hlo, ← hhi] at HBO
   rw [← hlo] at HM1
   rw [← hhi] at HM2
   have HI1 : Hid (i + 1 ≤ d.length ∧ d.length - (i + 1) < d.length - i) := by show _ ∧ _; omega
   have ib0 : (0 : Int) ≤ (i : Int) := by omega
   have ib1 : (i : Int) < (d.length : Int) := by omega
   obtain ⟨nm, F, G⟩ := x
   simp only at HM1 HM2
   have hll : lo.length ≤ 900 := by have := HLN.out.1; omega
   have hlh : hi.length ≤ 900 := by have := HLN.out.2; omega
   have HBA : Hid (BoxA w1.heap.size w1.heap.size wr v1 v2 v1 v2 lo hi) := BoxA.of HBO.out
   have HNX : Hid (∀ wx, Below w1.heap.size wr wx → w1.heap.size ≤ wx.heap.size) := fun wx h => Nat.le_trans HBR.out.size h.size
   have HGN : Hid (w1.heap.size ≤ w1.heap.size) := Nat.le_refl _
   have KY : Hid (∀ wx, Below w1.heap.size wr wx → wx.cell? ⟨gd, od + i * 3 + 1, none⟩ = some (.int .i64 F)) := fun wx h => (HDR.out wx (HBW.out.trans (h.mono (Nat.le_of_lt HS1.out)))).lo
   clear hx hlo hhi hr0 hi' hlt
   go_upto_region 8 with (fail)
   refine wp_region_inv [some 19, some 20, some 21, some 22, some 23, some 24, some 25, some 26, some 27, some 28, none] (Ap1J [some (.pointer (some ⟨w1.heap.size, 0, none⟩)), some (v1), some (.slice (some ⟨gd, od, none⟩) d.length cap1), some (.int .i64 (i : Nat)), some (.pointer (some ⟨gd, od + i * 3, none⟩)), some (.pointer (some ⟨gd, od + i * 3 + 1, none⟩)), some (.int .i64 F), none, none, some (.pointer (some ⟨w1.heap.size, 0, none⟩)), none] 7 8 10 w1.heap.size w1.heap.size wr v1 v2 lo hi F) rfl (by kernel_rfl) (by kernel_rfl) (by kernel_rfl) (by kernel_rfl) ?_ ?_ ?_
   ·exact Ap1J.start (Below.refl _ _).drew (HBA.out.later (Below.refl _ _).drew)
   ·intro i9 op9 ho
    have hi9 : i9 < 11 := (Array.getElem?_eq_some_iff.1 ho).1
    match i9, hi9 with
    | 0, _ =>
     obtain rfl := Option.some.inj ho
     intro a9 dn vals wx hJ0 hdi hde hdj hev hsl hun
     have hJ := Lib.hid hJ0
     rw [if_pos (wanted_none rfl)]
     have f5 : (a9.tmps[5]?).getD undef = .pointer (some ⟨w1.heap.size, 0, none⟩) := hev 5 (by kernel_rfl)
     clear hde hdj hev hsl hun hJ0 hdi
     go_simp
     exact hJ.out.read (by decide) (by decide) (by decide) rfl (Below.refl _ _) (HNX.out wx hJ.out.below)
    | 1, _ =>
     obtain rfl := Option.some.inj ho
     intro a9 dn vals wx hJ0 hdi hde hdj hev hsl hun
     have hJ := Lib.hid hJ0
     rw [if_pos (wanted_none rfl)]
     have f19 : (a9.tmps[19]?).getD undef = .pointer (some ⟨w1.heap.size, 0, none⟩) := (hsl 0 19 (hde 0 _ rfl rfl) rfl).trans (hJ.out.fv 0 _ rfl (hde 0 _ rfl rfl))
     have n8 : Hid (dn 8 = false) := hdj 8 0 _ _ rfl rfl rfl rfl
     have n10 : Hid (dn 10 = false) := hdj 10 4 _ _ rfl rfl rfl rfl
     obtain ⟨k0, k1, k2, k3⟩ := (hJ.out.s0 n8.out n10.out).res
     clear hde hdj hev hsl hun hJ0 hdi
     clear n8 n10
     go_simp
     exact hJ.out.read (by decide) (by decide) (by decide) rfl (Below.refl _ _) (HNX.out wx hJ.out.below)
    | 2, _ =>
     obtain rfl := Option.some.inj ho
     intro a9 dn vals wx hJ0 hdi hde hdj hev hsl hun
     have hJ := Lib.hid hJ0
     rw [if_pos (wanted_none rfl)]
     have f0 : (a9.tmps[0]?).getD undef = .slice (some ⟨gd, od, none⟩) d.length cap1 := hev 0 (by kernel_rfl)
     clear hde hdj hev hsl hun hJ0 hdi
     go_simp
     exact hJ.out.read (by decide) (by decide) (by decide) rfl (Below.refl _ _) (HNX.out wx hJ.out.below)
    | 3, _ =>
     obtain rfl := Option.some.inj ho
     intro a9 dn vals wx hJ0 hdi hde hdj hev hsl hun
     have hJ := Lib.hid hJ0
     rw [if_pos (wanted_none rfl)]
     have f6 : (a9.tmps[6]?).getD undef = .int .i64 (i : Nat) := hev 6 (by kernel_rfl)
     clear hde hdj hev hsl hun hJ0 hdi
     go_simp
     exact hJ.out.read (by decide) (by decide) (by decide) rfl (Below.refl _ _) (HNX.out wx hJ.out.below)
    | 4, _ =>
     obtain rfl := Option.some.inj ho
     intro a9 dn vals wx hJ0 hdi hde hdj hev hsl hun
     have hJ := Lib.hid hJ0
     rw [if_pos (wanted_none rfl)]
     have f21 : (a9.tmps[21]?).getD undef = .slice (some ⟨gd, od, none⟩) d.length cap1 := (hsl 2 21 (hde 0 _ rfl rfl) rfl).trans (hJ.out.fv 2 _ rfl (hde 0 _ rfl rfl))
     have f22 : (a9.tmps[22]?).getD undef = .int .i64 (i : Nat) := (hsl 3 22 (hde 1 _ rfl rfl) rfl).trans (hJ.out.fv 3 _ rfl (hde 1 _ rfl rfl))
     clear hde hdj hev hsl hun hJ0 hdi
     go_simp
     exact hJ.out.read (by decide) (by decide) (by decide) rfl (Below.refl _ _) (HNX.out wx hJ.out.below)
    | 5, _ =>
     obtain rfl := Option.some.inj ho
     intro a9 dn vals wx hJ0 hdi hde hdj hev hsl hun
     have hJ := Lib.hid hJ0
     rw [if_pos (wanted_none rfl)]
     have f23 : (a9.tmps[23]?).getD undef = .pointer (some ⟨gd, od + i * 3, none⟩) := (hsl 4 23 (hde 0 _ rfl rfl) rfl).trans (hJ.out.fv 4 _ rfl (hde 0 _ rfl rfl))
     clear hde hdj hev hsl hun hJ0 hdi
     go_simp
     exact hJ.out.read (by decide) (by decide) (by decide) rfl (Below.refl _ _) (HNX.out wx hJ.out.below)
    | 6, _ =>
     obtain rfl := Option.some.inj ho
     intro a9 dn vals wx hJ0 hdi hde hdj hev hsl hun
     have hJ := Lib.hid hJ0
     rw [if_pos (wanted_none rfl)]
     have f24 : (a9.tmps[24]?).getD undef = .pointer (some ⟨gd, od + i * 3 + 1, none⟩) := (hsl 5 24 (hde 0 _ rfl rfl) rfl).trans (hJ.out.fv 5 _ rfl (hde 0 _ rfl rfl))
     have ky := KY.out _ hJ.out.below
     clear hde hdj hev hsl hun hJ0 hdi
     go_simp
     exact hJ.out.read (by decide) (by decide) (by decide) rfl (Below.refl _ _) (HNX.out wx hJ.out.below)
    | 7, _ =>
     obtain rfl := Option.some.inj ho
     intro a9 dn vals wx hJ0 hdi hde hdj hev hsl hun
     have hJ := Lib.hid hJ0
     rw [if_pos (wanted_none rfl)]
     have f25 : (a9.tmps[25]?).getD undef = .int .i64 F := (hsl 6 25 (hde 0 _ rfl rfl) rfl).trans (hJ.out.fv 6 _ rfl (hde 0 _ rfl rfl))
     clear hde hdj hev hsl hun hJ0 hdi
     go_simp
     exact hJ.out.build (by decide) (by decide) rfl (HNX.out wx hJ.out.below)
    | 8, _ =>
     obtain rfl := Option.some.inj ho
     intro a9 dn vals wx hJ0 hdi hde hdj hev hsl hun
     have hJ := Lib.hid hJ0
     rw [if_pos (wanted_none rfl)]
     have f20 : (a9.tmps[20]?).getD undef = v1 := (hsl 1 20 (hde 0 _ rfl rfl) rfl).trans (hJ.out.fv 1 _ rfl (hde 0 _ rfl rfl))
     obtain ⟨b3, e3, q3⟩ := hJ.out.fb (hde 1 _ rfl rfl) hdi
     have f26 : (a9.tmps[26]?).getD undef = .slice (some ⟨b3, 0, none⟩) 1 1 := (hsl 7 26 (hde 1 _ rfl rfl) rfl).trans e3
     have n10 : Hid (dn 10 = false) := hdj 10 1 _ _ rfl rfl rfl rfl
     have hS := hJ.out.s0 hdi n10.out
     obtain ⟨g9, cap9, w9, hrun, hown, hgr, hat, hlt9⟩ := run_append_lies (P := Tryz.prog) (w := wx) 24 24 w1.heap.size 3 i0 (.int .i64 0) 1 8 Tryz.underlying24 hi0 hz0 hz1 hz2 rfl (by decide) v1 lo.length _ hS.own1 ⟨b3, 0, none⟩ 1 1 [.int .i64 F] rfl (fun j u hj => by
      match j, hj with
      | 0, hj => simp at hj; subst hj; exact q3) (fun u hu => by simp at hu; subst hu; rfl) (by decide) (by unfold maxLen; omega) (by omega) (HNX.out wx hJ.out.below) _ rfl
     have HF := Lib.hid (hJ.out.append (by decide) rfl (HNX.out wx hJ.out.below) hdi n10.out hown hgr hat)
     have HRUN := Lib.hid hrun
     clear hde hdj hev hsl hun hJ0 hdi
     clear hrun hown hgr hat hlt9 hS q3 e3
     refine does_append2 (s := .tmp 20) (x := .tmp 26) (T := 24) rfl (by rw [eval_tmp]; exact f20) (by rw [eval_tmp]; exact f26) HRUN.out HF.out
    | 9, _ =>
     obtain rfl := Option.some.inj ho
     intro a9 dn vals wx hJ0 hdi hde hdj hev hsl hun
     have hJ := Lib.hid hJ0
     rw [if_pos (wanted_none rfl)]
     have f5 : (a9.tmps[5]?).getD undef = .pointer (some ⟨w1.heap.size, 0, none⟩) := hev 5 (by kernel_rfl)
     clear hde hdj hev hsl hun hJ0 hdi
     go_simp
     exact hJ.out.read (by decide) (by decide) (by decide) rfl (Below.refl _ _) (HNX.out wx hJ.out.below)
    | 10, _ =>
     obtain rfl := Option.some.inj ho
     intro a9 dn vals wx hJ0 hdi hde hdj hev hsl hun
     have hJ := Lib.hid hJ0
     rw [if_pos (wanted_none rfl)]
     have f28 : (a9.tmps[28]?).getD undef = .pointer (some ⟨w1.heap.size, 0, none⟩) := (hsl 9 28 (hde 0 _ rfl rfl) rfl).trans (hJ.out.fv 9 _ rfl (hde 0 _ rfl rfl))
     obtain ⟨b4, cp4, e4⟩ := hJ.out.fa (hde 1 _ rfl rfl)
     have f27 : (a9.tmps[27]?).getD undef = .slice (some ⟨b4, 0, none⟩) (lo.length + 1) cp4 := (hsl 8 27 (hde 1 _ rfl rfl) rfl).trans e4
     have d8 : Hid (dn 8 = true) := hde 1 _ rfl rfl
     have hS := hJ.out.s1 d8.out hdi
     obtain ⟨k0, k1, k2, k3⟩ := hS.res
     have HF := Lib.hid (fun v => hJ.out.store (v := v) (by decide) rfl HGN.out d8.out hdi e4)
     clear hde hdj hev hsl hun hJ0 hdi
     clear hS e4
     go_simp
     exact HF.out _
   ·intro dn vals wx hall hJ
    have hS := hJ.s2 (hall 8 (by decide)) (hall 10 (by decide))
    obtain ⟨b4, cp4, g8⟩ := hJ.fa (hall 8 (by decide))
    rw [g8] at hS
    have g0 := hJ.fv 0 _ rfl (hall 0 (by decide))
    have g1 := hJ.fv 1 _ rfl (hall 1 (by decide))
    have g2 := hJ.fv 2 _ rfl (hall 2 (by decide))
    have g3 := hJ.fv 3 _ rfl (hall 3 (by decide))
    have g4 := hJ.fv 4 _ rfl (hall 4 (by decide))
    have g5 := hJ.fv 5 _ rfl (hall 5 (by decide))
    have g6 := hJ.fv 6 _ rfl (hall 6 (by decide))
    have g9 := hJ.fv 9 _ rfl (hall 9 (by decide))
    have HS9 := Lib.hid hS.to
    have HB9 := Lib.hid hJ.below
    simp only [putDs, Act.put, Nat.zero_add, Nat.reduceAdd, List.setIfInBounds_toArray, List.set_cons_succ, List.set_cons_zero, g8, g0, g1, g2, g3, g4, g5, g6, g9]
    clear g8 g0 g1 g2 g3 g4 g5 g6 g9 hS hJ hall
    have HBO4 := Lib.hid HS9.out
    have HB4 := Lib.hid (HBR.out.trans HB9.out)
    clear HS9 HB9 HBA HNX KY
    obtain ⟨W7, hW7⟩ : ∃ W7, W7 = wx := ⟨_, rfl⟩
    rw [← hW7] at HBO4 HB4 ⊢
    obtain ⟨b5, hb5⟩ : ∃ b5, b5 = b4 := ⟨_, rfl⟩
    obtain ⟨cp5, hcp5⟩ : ∃ cp5, cp5 = cp4 := ⟨_, rfl⟩
    rw [← hb5, ← hcp5] at HBO4 ⊢
    clear hW7 hb5 hcp5
    have HBA : Hid (BoxA w1.heap.size w1.heap.size W7 (.slice (some ⟨b5, 0, none⟩) (lo.length + 1) cp5) v2 (.slice (some ⟨b5, 0, none⟩) (lo.length + 1) cp5) v2 (lo ++ [F]) hi) := BoxA.of HBO4.out
    have HNX : Hid (∀ wx, Below w1.heap.size W7 wx → w1.heap.size ≤ wx.heap.size) := fun wx h => Nat.le_trans HB4.out.size h.size
    have KY : Hid (∀ wx, Below w1.heap.size W7 wx → wx.cell? ⟨gd, od + i * 3 + 2, none⟩ = some (.int .i64 G)) := fun wx h => (HDR.out wx (HB.out.trans ((HB4.out.trans h).mono (Nat.le_of_lt HS1.out)))).hi
    go_upto_region 9 with (fail)
    refine wp_region_inv [some 29, some 30, some 31, some 32, some 33, some 34, some 35, some 36, some 37, some 38, none] (ApJ [some (.pointer (some ⟨w1.heap.size, 1, none⟩)), some (v2), some (.slice (some ⟨gd, od, none⟩) d.length cap1), some (.int .i64 (i : Nat)), some (.pointer (some ⟨gd, od + i * 3, none⟩)), some (.pointer (some ⟨gd, od + i * 3 + 2, none⟩)), some (.int .i64 G), none, none, some (.pointer (some ⟨w1.heap.size, 1, none⟩)), none] 7 8 10 w1.heap.size w1.heap.size W7 (.slice (some ⟨b5, 0, none⟩) (lo.length + 1) cp5) v2 (lo ++ [F]) hi G) rfl (by kernel_rfl) (by kernel_rfl) (by kernel_rfl) (by kernel_rfl) ?_ ?_ ?_
    ·exact ApJ.start (Below.refl _ _).drew (HBA.out.later (Below.refl _ _).drew)
    ·intro i9 op9 ho
     have hi9 : i9 < 11 := (Array.getElem?_eq_some_iff.1 ho).1
     match i9, hi9 with
     | 0, _ =>
      obtain rfl := Option.some.inj ho
      intro a9 dn vals wx hJ0 hdi hde hdj hev hsl hun
      have hJ := Lib.hid hJ0
      rw [if_pos (wanted_none rfl)]
      have f5 : (a9.tmps[5]?).getD undef = .pointer (some ⟨w1.heap.size, 0, none⟩) := hev 5 (by kernel_rfl)
      clear hde hdj hev hsl hun hJ0 hdi
      go_simp
      exact hJ.out.read (by decide) (by decide) (by decide) rfl (Below.refl _ _) (HNX.out wx hJ.out.below)
     | 1, _ =>
      obtain rfl := Option.some.inj ho
      intro a9 dn vals wx hJ0 hdi hde hdj hev hsl hun
      have hJ := Lib.hid hJ0
      rw [if_pos (wanted_none rfl)]
      have f29 : (a9.tmps[29]?).getD undef = .pointer (some ⟨w1.heap.size, 1, none⟩) := (hsl 0 29 (hde 0 _ rfl rfl) rfl).trans (hJ.out.fv 0 _ rfl (hde 0 _ rfl rfl))
      have n8 : Hid (dn 8 = false) := hdj 8 0 _ _ rfl rfl rfl rfl
      have n10 : Hid (dn 10 = false) := hdj 10 4 _ _ rfl rfl rfl rfl
      obtain ⟨k0, k1, k2, k3⟩ := (hJ.out.s0 n8.out n10.out).res
      clear hde hdj hev hsl hun hJ0 hdi
      clear n8 n10
      go_simp
      exact hJ.out.read (by decide) (by decide) (by decide) rfl (Below.refl _ _) (HNX.out wx hJ.out.below)
     | 2, _ =>
      obtain rfl := Option.some.inj ho
      intro a9 dn vals wx hJ0 hdi hde hdj hev hsl hun
      have hJ := Lib.hid hJ0
      rw [if_pos (wanted_none rfl)]
      have f0 : (a9.tmps[0]?).getD undef = .slice (some ⟨gd, od, none⟩) d.length cap1 := hev 0 (by kernel_rfl)
      clear hde hdj hev hsl hun hJ0 hdi
      go_simp
      exact hJ.out.read (by decide) (by decide) (by decide) rfl (Below.refl _ _) (HNX.out wx hJ.out.below)
     | 3, _ =>
      obtain rfl := Option.some.inj ho
      intro a9 dn vals wx hJ0 hdi hde hdj hev hsl hun
      have hJ := Lib.hid hJ0
      rw [if_pos (wanted_none rfl)]
      have f6 : (a9.tmps[6]?).getD undef = .int .i64 (i : Nat) := hev 6 (by kernel_rfl)
      clear hde hdj hev hsl hun hJ0 hdi
      go_simp
      exact hJ.out.read (by decide) (by decide) (by decide) rfl (Below.refl _ _) (HNX.out wx hJ.out.below)
     | 4, _ =>
      obtain rfl := Option.some.inj ho
      intro a9 dn vals wx hJ0 hdi hde hdj hev hsl hun
      have hJ := Lib.hid hJ0
      rw [if_pos (wanted_none rfl)]
      have f31 : (a9.tmps[31]?).getD undef = .slice (some ⟨gd, od, none⟩) d.length cap1 := (hsl 2 31 (hde 0 _ rfl rfl) rfl).trans (hJ.out.fv 2 _ rfl (hde 0 _ rfl rfl))
      have f32 : (a9.tmps[32]?).getD undef = .int .i64 (i : Nat) := (hsl 3 32 (hde 1 _ rfl rfl) rfl).trans (hJ.out.fv 3 _ rfl (hde 1 _ rfl rfl))
      clear hde hdj hev hsl hun hJ0 hdi
      go_simp
      exact hJ.out.read (by decide) (by decide) (by decide) rfl (Below.refl _ _) (HNX.out wx hJ.out.below)
     | 5, _ =>
      obtain rfl := Option.some.inj ho
      intro a9 dn vals wx hJ0 hdi hde hdj hev hsl hun
      have hJ := Lib.hid hJ0
      rw [if_pos (wanted_none rfl)]
      have f33 : (a9.tmps[33]?).getD undef = .pointer (some ⟨gd, od + i * 3, none⟩) := (hsl 4 33 (hde 0 _ rfl rfl) rfl).trans (hJ.out.fv 4 _ rfl (hde 0 _ rfl rfl))
      clear hde hdj hev hsl hun hJ0 hdi
      go_simp
      exact hJ.out.read (by decide) (by decide) (by decide) rfl (Below.refl _ _) (HNX.out wx hJ.out.below)
     | 6, _ =>
      obtain rfl := Option.some.inj ho
      intro a9 dn vals wx hJ0 hdi hde hdj hev hsl hun
      have hJ := Lib.hid hJ0
      rw [if_pos (wanted_none rfl)]
      have f34 : (a9.tmps[34]?).getD undef = .pointer (some ⟨gd, od + i * 3 + 2, none⟩) := (hsl 5 34 (hde 0 _ rfl rfl) rfl).trans (hJ.out.fv 5 _ rfl (hde 0 _ rfl rfl))
      have ky := KY.out _ hJ.out.below
      clear hde hdj hev hsl hun hJ0 hdi
      go_simp
      exact hJ.out.read (by decide) (by decide) (by decide) rfl (Below.refl _ _) (HNX.out wx hJ.out.below)
     | 7, _ =>
      obtain rfl := Option.some.inj ho
      intro a9 dn vals wx hJ0 hdi hde hdj hev hsl hun
      have hJ := Lib.hid hJ0
      rw [if_pos (wanted_none rfl)]
      have f35 : (a9.tmps[35]?).getD undef = .int .i64 G := (hsl 6 35 (hde 0 _ rfl rfl) rfl).trans (hJ.out.fv 6 _ rfl (hde 0 _ rfl rfl))
      clear hde hdj hev hsl hun hJ0 hdi
      go_simp
      exact hJ.out.build (by decide) (by decide) rfl (HNX.out wx hJ.out.below)
     | 8, _ =>
      obtain rfl := Option.some.inj ho
      intro a9 dn vals wx hJ0 hdi hde hdj hev hsl hun
      have hJ := Lib.hid hJ0
      rw [if_pos (wanted_none rfl)]
      have f30 : (a9.tmps[30]?).getD undef = v2 := (hsl 1 30 (hde 0 _ rfl rfl) rfl).trans (hJ.out.fv 1 _ rfl (hde 0 _ rfl rfl))
      obtain ⟨b3, e3, q3⟩ := hJ.out.fb (hde 1 _ rfl rfl) hdi
      have f36 : (a9.tmps[36]?).getD undef = .slice (some ⟨b3, 0, none⟩) 1 1 := (hsl 7 36 (hde 1 _ rfl rfl) rfl).trans e3
      have n10 : Hid (dn 10 = false) := hdj 10 1 _ _ rfl rfl rfl rfl
      have hS := hJ.out.s0 hdi n10.out
      obtain ⟨g9, cap9, w9, hrun, hown, hgr, hat, hlt9⟩ := run_append_lies (P := Tryz.prog) (w := wx) 24 24 w1.heap.size 3 i0 (.int .i64 0) 1 8 Tryz.underlying24 hi0 hz0 hz1 hz2 rfl (by decide) v2 hi.length _ hS.own2 ⟨b3, 0, none⟩ 1 1 [.int .i64 G] rfl (fun j u hj => by
       match j, hj with
       | 0, hj => simp at hj; subst hj; exact q3) (fun u hu => by simp at hu; subst hu; rfl) (by decide) (by unfold maxLen; omega) (by omega) (HNX.out wx hJ.out.below) _ rfl
      have HF := Lib.hid (hJ.out.append (by decide) rfl (HNX.out wx hJ.out.below) hdi n10.out hown hgr hat)
      have HRUN := Lib.hid hrun
      clear hde hdj hev hsl hun hJ0 hdi
      clear hrun hown hgr hat hlt9 hS q3 e3
      refine does_append2 (s := .tmp 30) (x := .tmp 36) (T := 24) rfl (by rw [eval_tmp]; exact f30) (by rw [eval_tmp]; exact f36) HRUN.out HF.out
     | 9, _ =>
      obtain rfl := Option.some.inj ho
      intro a9 dn vals wx hJ0 hdi hde hdj hev hsl hun
      have hJ := Lib.hid hJ0
      rw [if_pos (wanted_none rfl)]
      have f5 : (a9.tmps[5]?).getD undef = .pointer (some ⟨w1.heap.size, 0, none⟩) := hev 5 (by kernel_rfl)
      clear hde hdj hev hsl hun hJ0 hdi
      go_simp
      exact hJ.out.read (by decide) (by decide) (by decide) rfl (Below.refl _ _) (HNX.out wx hJ.out.below)
     | 10, _ =>
      obtain rfl := Option.some.inj ho
      intro a9 dn vals wx hJ0 hdi hde hdj hev hsl hun
      have hJ := Lib.hid hJ0
      rw [if_pos (wanted_none rfl)]
      have f38 : (a9.tmps[38]?).getD undef = .pointer (some ⟨w1.heap.size, 1, none⟩) := (hsl 9 38 (hde 0 _ rfl rfl) rfl).trans (hJ.out.fv 9 _ rfl (hde 0 _ rfl rfl))
      obtain ⟨b4, cp4, e4⟩ := hJ.out.fa (hde 1 _ rfl rfl)
      have f37 : (a9.tmps[37]?).getD undef = .slice (some ⟨b4, 0, none⟩) (hi.length + 1) cp4 := (hsl 8 37 (hde 1 _ rfl rfl) rfl).trans e4
      have d8 : Hid (dn 8 = true) := hde 1 _ rfl rfl
      have hS := hJ.out.s1 d8.out hdi
      obtain ⟨k0, k1, k2, k3⟩ := hS.res
      have HF := Lib.hid (fun v => hJ.out.store (v := v) (by decide) rfl HGN.out d8.out hdi e4)
      clear hde hdj hev hsl hun hJ0 hdi
      clear hS e4
      go_simp
      exact HF.out _
    ·intro dn vals wx hall hJ
     have hS := hJ.s2 (hall 8 (by decide)) (hall 10 (by decide))
     obtain ⟨b4, cp4, g8⟩ := hJ.fa (hall 8 (by decide))
     rw [g8] at hS
     have g0 := hJ.fv 0 _ rfl (hall 0 (by decide))
     have g1 := hJ.fv 1 _ rfl (hall 1 (by decide))
     have g2 := hJ.fv 2 _ rfl (hall 2 (by decide))
     have g3 := hJ.fv 3 _ rfl (hall 3 (by decide))
     have g4 := hJ.fv 4 _ rfl (hall 4 (by decide))
     have g5 := hJ.fv 5 _ rfl (hall 5 (by decide))
     have g6 := hJ.fv 6 _ rfl (hall 6 (by decide))
     have g9 := hJ.fv 9 _ rfl (hall 9 (by decide))
     have HS9 := Lib.hid hS.to
     have HB9 := Lib.hid hJ.below
     simp only [putDs, Act.put, Nat.zero_add, Nat.reduceAdd, List.setIfInBounds_toArray, List.set_cons_succ, List.set_cons_zero, g8, g0, g1, g2, g3, g4, g5, g6, g9]
     clear g8 g0 g1 g2 g3 g4 g5 g6 g9 hS hJ hall
     rw [← HM1.out, ← HM2.out] at HS9
     have HB5 := Lib.hid (HB4.out.trans HB9.out)
     go_wp2
     exact ⟨⟨i + 1, _, _, HI1.out.1, by go_num, HS9.out, HB5.out⟩, HI1.out.2⟩
  ·obtain rfl : i = d.length := by omega
   have ht1 : (d.map DimT.lo).take d.length = d.map DimT.lo := List.take_of_length_le (by simp)
   have ht2 : (d.map DimT.hi).take d.length = d.map DimT.hi := List.take_of_length_le (by simp)
   rw [ht1, ht2] at HBO
   obtain ⟨⟨f0, f1, f2, f3⟩, ow1, ow2, hap, htg⟩ := HBO.out
   obtain ⟨r0, r1, r2, r3⟩ := HR0.out.later HBR.out HS1.out
   have h1 := RowZ.append_owns ow1 rfl
   have h2 := RowZ.append_owns ow2 rfl
   have H1 := Lib.hid h1
   have H2 := Lib.hid h2
   obtain ⟨q1, k1, e1, -⟩ := h1.ints.shape
   obtain ⟨q2, k2, e2, -⟩ := h2.ints.shape
   have hltw : w.heap.size < wr.heap.size := World.block_lt_of_cell? _ _ r0
   have HNG : Hid (∀ (v : Value) (n : Nat) (xs : List Value), wr.ownsRow w1.heap.size 3 1 v n xs → ∀ b, v.ownBlock = some b → b ≠ w.heap.size) := fun v n xs h b hb => by
    have := (h.lt b hb).1
    have := HS1.out
    omega
   have HK1 := Lib.hid (HNG.out v1 _ _ ow1)
   have HK2 := Lib.hid (HNG.out v2 _ _ ow2)
   clear ow1 ow2 hap htg h1 h2 ht1 ht2
   rw [List.length_map] at e1 e2
   subst e1 e2
   go_wp2
   refine bodyPost_ret (by simp [results, Tryz.results31, go_sem, r0, r1]; try rfl) rfl ?_
   have hk : ∀ (x : Value) (l : List Int) (u u' : Value), IntsO wr x l → (∀ b, x.ownBlock = some b → b ≠ w.heap.size) → IntsO ((wr.setCell ⟨w.heap.size, 0, none⟩ u).setCell ⟨w.heap.size, 1, none⟩ u') x l := fun x l u u' h hne =>
    (h.grown (grown_setG wr w.heap.size 0 u) (fun r er e2 => by cases er; exact hne _ e2 rfl)).grown (grown_setG _ w.heap.size 1 u') (fun r er e2 => by cases er; exact hne _ e2 rfl)
   exact ⟨_, _, rfl, hk _ _ _ _ H1.out HK1.out, hk _ _ _ _ H2.out HK2.out, (HBW.out.setCell (by simp) _).setCell (by simp) _⟩
theorem rwholeBox_any (d : List DimT) (v : Value) (w : World) (hd : Dims w v d) (hs : StrD d) :
  Calls Tryz.prog 31 #[v] w (RetBx (wholeB d) (dimsE d) w) := by
 unfold wholeB
 by_cases h : dimsE d = 0
 ·rw [if_pos h, h]; exact rwhole_core d v w hd hs h
 ·rw [if_neg h]; exact rwhole_bad d v w hd hs h
end Go.Proofs.YtebpfbgaafchjaaGreatDoor
