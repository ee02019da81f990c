/- ExactTyped: the walk. -/
import Derived.Test.YtemhidlaaommaaaGreatDoorLawT
import Derived.Test.YtemhidlaaommaaaGreatDoorOpen
import Derived.Test.YtemhidlaaommaaaGreatDoorRegInv
import Derived.Test.YtemhidlaaommaaaGreatDoorW1
namespace Go.Proofs.YtemhidlaaommaaaGreatDoor
open Go.RowKit

theorem InS.at {w : World} {v : Value} {l : List Int} {n k : Nat} (h : InS w v l) (hn : l.length = n) (hk : k < n) :
    ∃ g o cap, v = .slice (some ⟨g, o, none⟩) n cap ∧ ∀ i x, l[i]? = some x → w.cell? ⟨g, o + i, none⟩ = some (.int .i64 x) := by
  rcases h with ⟨_, _, _, rfl⟩ | ⟨g, o, cap, rfl, -, -, h3⟩
  · simp at hn; omega
  · subst hn; exact ⟨g, o, cap, rfl, h3⟩
theorem VaS.at {w : World} {v : Value} {l : List Va} {n k : Nat} (h : VaS w v l) (hn : l.length = n) (hk : k < n) :
    ∃ g o cap, v = .slice (some ⟨g, o, none⟩) n cap ∧ ∀ i x, l[i]? = some x → VaAt w g (o + i * 4) x := by
  rcases h with ⟨_, _, _, rfl⟩ | ⟨g, o, cap, rfl, -, -, h3⟩
  · simp at hn; omega
  · subst hn; exact ⟨g, o, cap, rfl, h3⟩
theorem typed_big (op : Int) (a b : Option Addr) (m n p q : Nat) (w : World) (hm : Ml w) (h : 3 < m ∨ n ≠ m) :
    Calls Tryz.prog 13 #[.int .i64 op, .slice a m p, .slice b n q] w (RetV (.bool true) w) := by
  have C := Lib.hid (works_any w hm)
  have h' : decide ((3 : Int) < (m : Int)) = true ∨ (decide ((3 : Int) < (m : Int)) = false ∧ ((n : Int) == (m : Int)) = false) := by
    by_cases h3 : 3 < m
    · left; rw [decide_eq_true_eq]; omega
    · right
      refine ⟨by rw [decide_eq_false_iff_not]; omega, ?_⟩
      rw [beq_eq_false_iff_ne]; omega
  clear h hm
  rcases h' with h1 | ⟨h1, h2⟩
  all_goals
    go_enter Tryz.func13, Tryz.ntmps13
    go_wp2_with fail
    refine C.out.mono ?_
    rintro e w1 ⟨rfl, hb⟩
    go_wp2
    go_ret
    exact ⟨rfl, hb⟩

set_option maxHeartbeats 3200000 in
set_option maxRecDepth 100000 in
theorem typed_small (op : Int) (types : List Int) (l : List Va) (vt vl : Value) (w : World) (hm : Ml w) (ht : InS w vt types) (hl : VaS w vl l) (h3 : types.length ≤ 3) (hn : l.length = types.length) :
    Calls Tryz.prog 13 #[.int .i64 op, vt, vl] w (RetV (.bool true) w) := by
  have HM := Lib.hid (fun w1 (h : Below w.heap.size w w1) => works_any w1 (hm.later h))
  have CT := Lib.hid (type_any op types vt w ht)
  have CD := Lib.hid (fun w1 (h : Below w.heap.size w w1) => do_any op l vl w1 (by
    rcases hl with h' | h'
    · exact .inl h'
    · exact .inr (h'.later h)))
  have LAW := Lib.hid (fun t => typed_law op types l t hn)
  obtain ⟨n, hln⟩ : ∃ n, types.length = n := ⟨_, rfl⟩
  obtain ⟨a, p, hvt, hp⟩ := ht.shape
  obtain ⟨b, q, hvl, hq⟩ := hl.shape
  rw [hn, hln] at hvl
  rw [hln] at hvt hp h3
  have HT := Lib.hid ht
  have HL := Lib.hid hl
  have HLN := Lib.hid hln
  have HNN := Lib.hid hn
  have g3 : decide ((3 : Int) < (n : Int)) = false := by rw [decide_eq_false_iff_not]; omega
  have H3 := Lib.hid h3
  clear hm ht hl hn hln hq hp h3
  subst hvt hvl
  obtain ⟨t, ec, hte⟩ : ∃ t ec, typeE op types = (t, ec) := ⟨_, _, rfl⟩
  rw [hte] at CT
  unfold typeR at CT
  by_cases hec : ec = 0
  · subst hec
    have HTE := Lib.hid hte
    clear hte
    go_enter Tryz.func13, Tryz.ntmps13
    go_wp2_with fail
    refine CT.out.mono ?_
    rintro e w1 ⟨rfl, hb1⟩
    have HB1 := Lib.hid hb1
    clear hb1 CT
    go_wp2
    go_loopw [9] (fun iv wr => ∃ k : Nat, k ≤ n ∧ iv = .int .i64 (k : Nat) ∧ Hid (∀ i, i < k → fitsV (vat l i) (tat types i) = true) ∧ Hid (Below w.heap.size w wr)) (fun iv _ => n - (intOf iv).toNat)
    case atStart => exact ⟨0, Nat.zero_le _, rfl, fun i hi => absurd hi (Nat.not_lt_zero _), HB1.out⟩
    case round =>
      obtain ⟨k, hk, rfl, hall, hbr⟩ := hrel
      by_cases hlt : k < n
      · have HLT := Lib.hid hlt
        obtain ⟨g, o, cap, e1, hcell⟩ := HT.out.at HLN.out hlt
        obtain ⟨g', o', cap', e2, hcell'⟩ := HL.out.at (HNN.out.trans HLN.out) hlt
        injection e1 with e1 e1n e1'
        injection e2 with e2 e2n e2'
        subst e1 e2 e1' e2'
        clear e1n e2n
        obtain ⟨y, hy⟩ : ∃ y, types[k]? = some y := ⟨_, List.getElem?_eq_getElem (by rw [HLN.out]; exact hlt)⟩
        obtain ⟨x, hx⟩ : ∃ x, l[k]? = some x := ⟨_, List.getElem?_eq_getElem (by rw [HNN.out, HLN.out]; exact hlt)⟩
        have hY : tat types k = y := by unfold tat; rw [List.getD_eq_getElem?_getD, hy]; rfl
        have hX : vat l k = x := by unfold vat; rw [List.getD_eq_getElem?_getD, hx]; rfl
        have hy1 := hcell k y hy
        have hx1 := hcell' k x hx
        have hgl : g < w.heap.size := World.block_lt_of_cell? w ⟨g, o + k, none⟩ hy1
        have hgl' := hx1.lt
        have K : ∀ w' : World, Below w.heap.size w w' → (w'.cell? ⟨g, o + k, none⟩ = some (.int .i64 y) ∧ w'.cell? ⟨g', o' + k * 4, none⟩ = some (.int .i64 x.kind) ∧ w'.cell? ⟨g', o' + k * 4 + 1, none⟩ = some (.int .i64 x.num) ∧ w'.cell? ⟨g', o' + k * 4 + 2, none⟩ = some (.int .i64 x.den) ∧ w'.cell? ⟨g', o' + k * 4 + 3, none⟩ = some (.string ⟨x.str.toArray⟩) ∧ Below w.heap.size w w') := fun w1 hb =>
          let b := hx1.later hb hgl'
          ⟨(hb.cell (p := ⟨g, o + k, none⟩) hgl).trans hy1, b.kind, b.num, b.den, b.str, hb⟩
        have hbd : Below w.heap.size w wr.drew := hbr.out.drew
        obtain ⟨k0, k1, k2, k3, k4, -⟩ := K wr hbr.out
        have KK := Lib.hid K
        have HX := Lib.hid hX
        have HY := Lib.hid hY
        have CF : ∀ w1, Calls Tryz.prog 52 #[.agg #[.int .i64 x.kind, .int .i64 x.num, .int .i64 x.den, .string ⟨x.str.toArray⟩], .int .i64 y] w1 (RetV (.bool (fitsV x y)) w1) := fun w1 => fits_any x y w1
        have CF := Lib.hid CF
        rename_i CF'
        clear CF'
        cases hft : fitsV x y with
        | true =>
          have hst : Hid (∀ i, i < k + 1 → fitsV (vat l i) (tat types i) = true) := fun i hi => by
            by_cases e : i = k
            · subst e; rw [HX.out, HY.out, hft]
            · exact hall.out i (by omega)
          rw [hft] at CF
          clear hft K hcell hcell' hx hy hX hY hy1 hx1 hgl hgl'
          go_wp2_with fail
          refine wp_region_list [.val (.slice (some ⟨g', o', none⟩) n q), .val (.int .i64 (k : Nat)), .val (.pointer (some ⟨g', o' + k * 4, none⟩)), .val (.agg #[.int .i64 x.kind, .int .i64 x.num, .int .i64 x.den, .string ⟨x.str.toArray⟩]), .val (.slice (some ⟨g, o, none⟩) n p), .val (.int .i64 (k : Nat)), .val (.pointer (some ⟨g, o + k, none⟩)), .val (.int .i64 y), .val (.bool true), .val (.bool false)]
            [some 38, some 39, some 40, some 41, some 42, some 43, some 44, some 45, some 46, some 47]
            (fun w' => Below w.heap.size w w') (fun w1 w2 => Below w1.heap.size w1 w2) rfl (by kernel_rfl) (by kernel_rfl) (by kernel_rfl) (by kernel_rfl) ?_ ?_ ?_ ?_
          · (intro y9 hy9 v w1 w2 hs hv; simp only [List.mem_cons, List.not_mem_nil, or_false] at hy9; rcases hy9 with rfl | rfl | rfl | rfl | rfl | rfl | rfl | rfl | rfl | rfl <;> exact hv)
          · exact hbd
          · intro i9 op9 ho
            have hi : i9 < 10 := (Array.getElem?_eq_some_iff.1 ho).1
            match i9, hi with
            | 0, _ =>
              obtain rfl := Option.some.inj ho
              intro a9 wx hBx hev haf
              rw [if_pos (wanted_none rfl)]
              have f2 : (a9.tmps[2]?).getD undef = (.slice (some ⟨g', o', none⟩) n q) := hev 2 (by kernel_rfl)
              clear haf hev
              go_simp
              exact ⟨rfl, Below.refl _ _, hBx⟩
            | 1, _ =>
              obtain rfl := Option.some.inj ho
              intro a9 wx hBx hev haf
              rw [if_pos (wanted_none rfl)]
              have f9 : (a9.tmps[9]?).getD undef = (.int .i64 (k : Nat)) := hev 9 (by kernel_rfl)
              clear haf hev
              go_simp
              exact ⟨rfl, Below.refl _ _, hBx⟩
            | 2, _ =>
              obtain rfl := Option.some.inj ho
              intro a9 wx hBx hev haf
              rw [if_pos (wanted_none rfl)]
              have f38 : (a9.tmps[38]?).getD undef = (.slice (some ⟨g', o', none⟩) n q) := haf 0 _ rfl rfl 38 rfl
              have f39 : (a9.tmps[39]?).getD undef = (.int .i64 (k : Nat)) := haf 1 _ rfl rfl 39 rfl
              clear haf hev
              go_simp
              exact ⟨rfl, Below.refl _ _, hBx⟩
            | 3, _ =>
              obtain rfl := Option.some.inj ho
              intro a9 wx hBx hev haf
              rw [if_pos (wanted_none rfl)]
              have f40 : (a9.tmps[40]?).getD undef = (.pointer (some ⟨g', o' + k * 4, none⟩)) := haf 0 _ rfl rfl 40 rfl
              clear haf hev
              obtain ⟨k0, k1, k2, k3, k4, -⟩ := KK.out _ hBx
              go_simp
              exact ⟨rfl, Below.refl _ _, hBx⟩
            | 4, _ =>
              obtain rfl := Option.some.inj ho
              intro a9 wx hBx hev haf
              rw [if_pos (wanted_none rfl)]
              have f1 : (a9.tmps[1]?).getD undef = (.slice (some ⟨g, o, none⟩) n p) := hev 1 (by kernel_rfl)
              clear haf hev
              go_simp
              exact ⟨rfl, Below.refl _ _, hBx⟩
            | 5, _ =>
              obtain rfl := Option.some.inj ho
              intro a9 wx hBx hev haf
              rw [if_pos (wanted_none rfl)]
              have f9 : (a9.tmps[9]?).getD undef = (.int .i64 (k : Nat)) := hev 9 (by kernel_rfl)
              clear haf hev
              go_simp
              exact ⟨rfl, Below.refl _ _, hBx⟩
            | 6, _ =>
              obtain rfl := Option.some.inj ho
              intro a9 wx hBx hev haf
              rw [if_pos (wanted_none rfl)]
              have f42 : (a9.tmps[42]?).getD undef = (.slice (some ⟨g, o, none⟩) n p) := haf 0 _ rfl rfl 42 rfl
              have f43 : (a9.tmps[43]?).getD undef = (.int .i64 (k : Nat)) := haf 1 _ rfl rfl 43 rfl
              clear haf hev
              go_simp
              exact ⟨rfl, Below.refl _ _, hBx⟩
            | 7, _ =>
              obtain rfl := Option.some.inj ho
              intro a9 wx hBx hev haf
              rw [if_pos (wanted_none rfl)]
              have f44 : (a9.tmps[44]?).getD undef = (.pointer (some ⟨g, o + k, none⟩)) := haf 0 _ rfl rfl 44 rfl
              clear haf hev
              obtain ⟨k0, k1, k2, k3, k4, -⟩ := KK.out _ hBx
              go_simp
              exact ⟨rfl, Below.refl _ _, hBx⟩
            | 8, _ =>
              obtain rfl := Option.some.inj ho
              intro a9 wx hBx hev haf
              rw [if_pos (wanted_none rfl)]
              have f41 : (a9.tmps[41]?).getD undef = (.agg #[.int .i64 x.kind, .int .i64 x.num, .int .i64 x.den, .string ⟨x.str.toArray⟩]) := haf 0 _ rfl rfl 41 rfl
              have f45 : (a9.tmps[45]?).getD undef = (.int .i64 y) := haf 1 _ rfl rfl 45 rfl
              clear haf hev
              go_simp
              exact (CF.out _).mono fun e w' ⟨he, hb⟩ => ⟨_, he, rfl, hb, below_keep hBx hb⟩
            | 9, _ =>
              obtain rfl := Option.some.inj ho
              intro a9 wx hBx hev haf
              rw [if_pos (wanted_none rfl)]
              have f46 : (a9.tmps[46]?).getD undef = (.bool true) := haf 0 _ rfl rfl 46 rfl
              clear haf hev
              go_simp
              exact ⟨rfl, Below.refl _ _, hBx⟩
          · intro vals wx hBx hG
            have g0 : vals 0 = (.slice (some ⟨g', o', none⟩) n q) := hG 0 (by decide)
            have g1 : vals 1 = (.int .i64 (k : Nat)) := hG 1 (by decide)
            have g2 : vals 2 = (.pointer (some ⟨g', o' + k * 4, none⟩)) := hG 2 (by decide)
            have g3 : vals 3 = (.agg #[.int .i64 x.kind, .int .i64 x.num, .int .i64 x.den, .string ⟨x.str.toArray⟩]) := hG 3 (by decide)
            have g4 : vals 4 = (.slice (some ⟨g, o, none⟩) n p) := hG 4 (by decide)
            have g5 : vals 5 = (.int .i64 (k : Nat)) := hG 5 (by decide)
            have g6 : vals 6 = (.pointer (some ⟨g, o + k, none⟩)) := hG 6 (by decide)
            have g7 : vals 7 = (.int .i64 y) := hG 7 (by decide)
            have g8 : vals 8 = (.bool true) := hG 8 (by decide)
            have g9 : vals 9 = (.bool false) := hG 9 (by decide)
            clear hG
            simp only [putDs, Act.put, Nat.zero_add, Nat.reduceAdd, List.setIfInBounds_toArray, List.set_cons_succ, List.set_cons_zero, g0, g1, g2, g3, g4, g5, g6, g7, g8, g9]
            clear g0 g1 g2 g3 g4 g5 g6 g7 g8 g9
            have HB2 := Lib.hid hBx
            have hn3 := H3.out
            clear hBx
            go_wp2
            exact ⟨⟨k + 1, by omega, rfl, hst, HB2⟩, by show n - (k + 1) < n - k; omega⟩
        | false =>
          rw [hft] at CF
          clear hft K hcell hcell' hx hy hX hY hy1 hx1 hgl hgl'
          go_wp2_with fail
          refine wp_region_list [.val (.slice (some ⟨g', o', none⟩) n q), .val (.int .i64 (k : Nat)), .val (.pointer (some ⟨g', o' + k * 4, none⟩)), .val (.agg #[.int .i64 x.kind, .int .i64 x.num, .int .i64 x.den, .string ⟨x.str.toArray⟩]), .val (.slice (some ⟨g, o, none⟩) n p), .val (.int .i64 (k : Nat)), .val (.pointer (some ⟨g, o + k, none⟩)), .val (.int .i64 y), .val (.bool false), .val (.bool true)]
            [some 38, some 39, some 40, some 41, some 42, some 43, some 44, some 45, some 46, some 47]
            (fun w' => Below w.heap.size w w') (fun w1 w2 => Below w1.heap.size w1 w2) rfl (by kernel_rfl) (by kernel_rfl) (by kernel_rfl) (by kernel_rfl) ?_ ?_ ?_ ?_
          · (intro y9 hy9 v w1 w2 hs hv; simp only [List.mem_cons, List.not_mem_nil, or_false] at hy9; rcases hy9 with rfl | rfl | rfl | rfl | rfl | rfl | rfl | rfl | rfl | rfl <;> exact hv)
          · exact hbd
          · intro i9 op9 ho
            have hi : i9 < 10 := (Array.getElem?_eq_some_iff.1 ho).1
            match i9, hi with
            | 0, _ =>
              obtain rfl := Option.some.inj ho
              intro a9 wx hBx hev haf
              rw [if_pos (wanted_none rfl)]
              have f2 : (a9.tmps[2]?).getD undef = (.slice (some ⟨g', o', none⟩) n q) := hev 2 (by kernel_rfl)
              clear haf hev
              go_simp
              exact ⟨rfl, Below.refl _ _, hBx⟩
            | 1, _ =>
              obtain rfl := Option.some.inj ho
              intro a9 wx hBx hev haf
              rw [if_pos (wanted_none rfl)]
              have f9 : (a9.tmps[9]?).getD undef = (.int .i64 (k : Nat)) := hev 9 (by kernel_rfl)
              clear haf hev
              go_simp
              exact ⟨rfl, Below.refl _ _, hBx⟩
            | 2, _ =>
              obtain rfl := Option.some.inj ho
              intro a9 wx hBx hev haf
              rw [if_pos (wanted_none rfl)]
              have f38 : (a9.tmps[38]?).getD undef = (.slice (some ⟨g', o', none⟩) n q) := haf 0 _ rfl rfl 38 rfl
              have f39 : (a9.tmps[39]?).getD undef = (.int .i64 (k : Nat)) := haf 1 _ rfl rfl 39 rfl
              clear haf hev
              go_simp
              exact ⟨rfl, Below.refl _ _, hBx⟩
            | 3, _ =>
              obtain rfl := Option.some.inj ho
              intro a9 wx hBx hev haf
              rw [if_pos (wanted_none rfl)]
              have f40 : (a9.tmps[40]?).getD undef = (.pointer (some ⟨g', o' + k * 4, none⟩)) := haf 0 _ rfl rfl 40 rfl
              clear haf hev
              obtain ⟨k0, k1, k2, k3, k4, -⟩ := KK.out _ hBx
              go_simp
              exact ⟨rfl, Below.refl _ _, hBx⟩
            | 4, _ =>
              obtain rfl := Option.some.inj ho
              intro a9 wx hBx hev haf
              rw [if_pos (wanted_none rfl)]
              have f1 : (a9.tmps[1]?).getD undef = (.slice (some ⟨g, o, none⟩) n p) := hev 1 (by kernel_rfl)
              clear haf hev
              go_simp
              exact ⟨rfl, Below.refl _ _, hBx⟩
            | 5, _ =>
              obtain rfl := Option.some.inj ho
              intro a9 wx hBx hev haf
              rw [if_pos (wanted_none rfl)]
              have f9 : (a9.tmps[9]?).getD undef = (.int .i64 (k : Nat)) := hev 9 (by kernel_rfl)
              clear haf hev
              go_simp
              exact ⟨rfl, Below.refl _ _, hBx⟩
            | 6, _ =>
              obtain rfl := Option.some.inj ho
              intro a9 wx hBx hev haf
              rw [if_pos (wanted_none rfl)]
              have f42 : (a9.tmps[42]?).getD undef = (.slice (some ⟨g, o, none⟩) n p) := haf 0 _ rfl rfl 42 rfl
              have f43 : (a9.tmps[43]?).getD undef = (.int .i64 (k : Nat)) := haf 1 _ rfl rfl 43 rfl
              clear haf hev
              go_simp
              exact ⟨rfl, Below.refl _ _, hBx⟩
            | 7, _ =>
              obtain rfl := Option.some.inj ho
              intro a9 wx hBx hev haf
              rw [if_pos (wanted_none rfl)]
              have f44 : (a9.tmps[44]?).getD undef = (.pointer (some ⟨g, o + k, none⟩)) := haf 0 _ rfl rfl 44 rfl
              clear haf hev
              obtain ⟨k0, k1, k2, k3, k4, -⟩ := KK.out _ hBx
              go_simp
              exact ⟨rfl, Below.refl _ _, hBx⟩
            | 8, _ =>
              obtain rfl := Option.some.inj ho
              intro a9 wx hBx hev haf
              rw [if_pos (wanted_none rfl)]
              have f41 : (a9.tmps[41]?).getD undef = (.agg #[.int .i64 x.kind, .int .i64 x.num, .int .i64 x.den, .string ⟨x.str.toArray⟩]) := haf 0 _ rfl rfl 41 rfl
              have f45 : (a9.tmps[45]?).getD undef = (.int .i64 y) := haf 1 _ rfl rfl 45 rfl
              clear haf hev
              go_simp
              exact (CF.out _).mono fun e w' ⟨he, hb⟩ => ⟨_, he, rfl, hb, below_keep hBx hb⟩
            | 9, _ =>
              obtain rfl := Option.some.inj ho
              intro a9 wx hBx hev haf
              rw [if_pos (wanted_none rfl)]
              have f46 : (a9.tmps[46]?).getD undef = (.bool false) := haf 0 _ rfl rfl 46 rfl
              clear haf hev
              go_simp
              exact ⟨rfl, Below.refl _ _, hBx⟩
          · intro vals wx hBx hG
            have g0 : vals 0 = (.slice (some ⟨g', o', none⟩) n q) := hG 0 (by decide)
            have g1 : vals 1 = (.int .i64 (k : Nat)) := hG 1 (by decide)
            have g2 : vals 2 = (.pointer (some ⟨g', o' + k * 4, none⟩)) := hG 2 (by decide)
            have g3 : vals 3 = (.agg #[.int .i64 x.kind, .int .i64 x.num, .int .i64 x.den, .string ⟨x.str.toArray⟩]) := hG 3 (by decide)
            have g4 : vals 4 = (.slice (some ⟨g, o, none⟩) n p) := hG 4 (by decide)
            have g5 : vals 5 = (.int .i64 (k : Nat)) := hG 5 (by decide)
            have g6 : vals 6 = (.pointer (some ⟨g, o + k, none⟩)) := hG 6 (by decide)
            have g7 : vals 7 = (.int .i64 y) := hG 7 (by decide)
            have g8 : vals 8 = (.bool false) := hG 8 (by decide)
            have g9 : vals 9 = (.bool true) := hG 9 (by decide)
            clear hG
            simp only [putDs, Act.put, Nat.zero_add, Nat.reduceAdd, List.setIfInBounds_toArray, List.set_cons_succ, List.set_cons_zero, g0, g1, g2, g3, g4, g5, g6, g7, g8, g9]
            clear g0 g1 g2 g3 g4 g5 g6 g7 g8 g9
            have HB2 := Lib.hid hBx
            have hn3 := H3.out
            have C2 := Lib.hid (HM.out _ HB2.out)
            clear hBx
            go_wp2_with fail
            refine C2.out.mono ?_
            rintro e w3 ⟨rfl, hb3⟩
            go_wp2
            go_ret
            exact ⟨rfl, below_keep HB2.out hb3⟩
      · obtain rfl : k = n := by omega
        obtain ⟨v, hv1, hv2⟩ := LAW.out t HTE.out (fun i hi => hall.out i (by have := HLN.out; have := HNN.out; omega))
        have C1 := Lib.hid (CD.out _ hbr.out)
        rw [hv1] at C1
        unfold doR at C1
        have CF : ∀ w1, Calls Tryz.prog 52 #[.agg #[.int .i64 v.kind, .int .i64 v.num, .int .i64 v.den, .string ⟨v.str.toArray⟩], .int .i64 t] w1 (RetV (.bool (fitsV v t)) w1) := fun w1 => fits_any v t w1
        have CF := Lib.hid CF
        rename_i CF'
        clear CF'
        rw [hv2] at CF
        clear hv1 hv2
        go_wp2_with fail
        refine C1.out.mono ?_
        rintro e w2 ⟨rfl, hb2⟩
        have HB2 := Lib.hid (below_keep hbr.out (hb2.alloc hb2.size (.cells #[.int .i64 v.kind, .int .i64 v.num, .int .i64 v.den, .string ⟨v.str.toArray⟩] 45)))
        clear hb2
        go_wp2_with fail
        refine (CF.out _).mono ?_
        rintro e w3 ⟨rfl, hb3⟩
        have HB3 := Lib.hid (below_keep HB2.out hb3)
        have C3 := Lib.hid (HM.out _ HB3.out)
        clear hb3
        go_wp2_with fail
        refine C3.out.mono ?_
        rintro e w4 ⟨rfl, hb4⟩
        have HB4 := Lib.hid (below_keep HB3.out hb4)
        clear hb4
        go_wp2
        go_ret
        exact ⟨rfl, HB4.out⟩
  · have hec' : (ec == 0) = false := by rw [beq_eq_false_iff_ne]; exact hec
    clear hec hte
    go_enter Tryz.func13, Tryz.ntmps13
    go_wp2_with fail
    refine CT.out.mono ?_
    rintro e w1 ⟨rfl, hb1⟩
    have C2 := Lib.hid (HM.out _ hb1)
    have HB1 := Lib.hid hb1
    clear hb1 CT
    go_wp2_with fail
    refine C2.out.mono ?_
    rintro e w2 ⟨rfl, hb2⟩
    have HB2 := Lib.hid (below_keep HB1.out hb2)
    clear hb2
    go_wp2
    go_ret
    exact ⟨rfl, HB2.out⟩
theorem typed_any (op : Int) (types : List Int) (l : List Va) (vt vl : Value) (w : World) (hm : Ml w) (ht : InS w vt types) (hl : VaS w vl l) :
    Calls Tryz.prog 13 #[.int .i64 op, vt, vl] w (RetV (.bool true) w) := by
  by_cases h : types.length ≤ 3 ∧ l.length = types.length
  · exact typed_small op types l vt vl w hm ht hl h.1 h.2
  · obtain ⟨a, p, rfl, -⟩ := ht.shape
    obtain ⟨b, q, rfl, -⟩ := hl.shape
    exact typed_big op a b _ _ p q w hm (by omega)
end Go.Proofs.YtemhidlaaommaaaGreatDoor
