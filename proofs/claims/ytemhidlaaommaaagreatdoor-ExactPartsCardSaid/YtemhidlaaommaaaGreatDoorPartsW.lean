/- ExactParts: the walk. -/
import Derived.Test.YtemhidlaaommaaaGreatDoorL1
import Derived.Test.YtemhidlaaommaaaGreatDoorPtr
namespace Go.Proofs.YtemhidlaaommaaaGreatDoor
open Go.RowKit

theorem own_later {w w' : World} {base size n : Nat} {e : TypeId} {v : Value} {xs : List Value} (h : w.ownsRow base e size v n xs) (hb : Below w.heap.size w w') : w'.ownsRow base e size v n xs := by
  refine ⟨h.1, ?_⟩
  rcases h.2 with h0 | ⟨g, cap, cur, hv, hbs, hg, rest⟩
  · exact .inl h0
  · exact .inr ⟨g, cap, cur, hv, hbs, (hb.block g (Array.getElem?_eq_some_iff.1 hg).1).trans hg, rest⟩
/-- a row of numbers, made behind w0 -/
structure PxS (w0 wr : World) (v : Value) (k : Nat) (ps : Nat → Value) (qs : Nat → Rat) : Prop where
  own : wr.ownsRow w0.heap.size 22 1 v k (rowP ps k)
  num : ∀ j, j < k → IsR wr (ps j) (qs j)
  below : Below w0.heap.size w0 wr
  nil : k = 0 → v = .slice none 0 0
theorem PxS.start (w : World) (qs : Nat → Rat) : PxS w w (.slice none 0 0) 0 (fun _ => .pointer none) qs :=
  ⟨World.ownsRow_nil _ _ _ _, fun _ hj => absurd hj (Nat.not_lt_zero _), Below.refl _ _, fun _ => rfl⟩
theorem PxS.later {w0 wr w1 : World} {v : Value} {k : Nat} {ps : Nat → Value} {qs : Nat → Rat} (h : PxS w0 wr v k ps qs) (hb : Below wr.heap.size wr w1) : PxS w0 w1 v k ps qs :=
  ⟨own_later h.own hb, fun j hj => (h.num j hj).later hb, below_keep h.below hb, h.nil⟩
theorem PxS.put {w0 w1 w2 : World} {v v' z : Value} {k : Nat} {ps : Nat → Value} {qs : Nat → Rat} (h : PxS w0 w1 v k ps qs) (hz : IsR w1 z (qs k))
    (hown : w2.ownsRow w0.heap.size 22 1 v' (k + 1) (rowP (putV ps k z) (k + 1))) (hg : w1.grownBy w2 v.ownBlock) : PxS w0 w2 v' (k + 1) (putV ps k z) qs := by
  have hr : ∀ r, v.ownBlock = some r → ∃ p, w1.cell? ⟨r, 0, none⟩ = some (.pointer p) := fun r hr => by
    rcases Nat.eq_zero_or_pos k with rfl | hk
    · rw [h.nil rfl] at hr; cases hr
    · obtain ⟨g, _, _, e, -⟩ := h.num 0 hk
      exact ⟨some ⟨g, 0, none⟩, (own_cell h.own hr hk).trans (by rw [e])⟩
  refine ⟨hown, fun j hj => ?_, h.below.grown hg h.below.size (fun r hr' => (h.own.lt r hr').1), fun h => by omega⟩
  by_cases e : j = k
  · subst e; rw [putV_same]; exact hz.grownP hg hr
  · rw [putV_other _ _ e]; exact (h.num j (by omega)).grownP hg hr
theorem PxS.cell {w0 wr : World} {b c n : Nat} {k : Nat} {ps : Nat → Value} {qs : Nat → Rat} (h : PxS w0 wr (.slice (some ⟨b, 0, none⟩) n c) k ps qs) {j : Nat} (hj : j < k) : wr.cell? ⟨b, j, none⟩ = some (ps j) :=
  own_cell h.own rfl hj

theorem sumOf_bd' {qs : Nat → Rat} {k n : Nat} (h : ∀ j, j < n → Bd k (qs j)) : Bd (1 + (k + 1 + 1) * n) (sumOf qs (upto n)) := by
  have h1 := sumOf_bd (qs := fun j => if j < n then qs j else 0) (k := k + 1) (fun j => by
    show Bd _ (if j < n then qs j else 0)
    split
    · rename_i hj; exact (h j hj).mono (by omega)
    · exact Bd.zero.mono (by omega)) (upto n)
  rw [upto_length, sumOf_congr (qs' := qs) (upto n) (fun i hi => by rw [if_pos (List.mem_range.1 hi)])] at h1
  exact h1

set_option maxHeartbeats 16000000 in
set_option maxRecDepth 100000 in
theorem parts_pos (g o n cap : Nat) (N D : Nat → Int) (c : Nat) (w : World) (hm : Ml w) (hn : n ≤ 30) (h0 : 0 < n) (h1 : n ≤ cap) (h2 : cap ≤ 9223372036854775807) (hc : c ≤ 255)
    (hcell : ∀ i, i < n → w.cell? ⟨g, o + i * 2, none⟩ = some (.int .i64 (N i)) ∧ w.cell? ⟨g, o + i * 2 + 1, none⟩ = some (.int .i64 (D i)))
    (hr : ∀ i, i < n → -9223372036854775808 ≤ N i ∧ N i ≤ 9223372036854775807 ∧ -9223372036854775808 ≤ D i ∧ D i ≤ 9223372036854775807) :
    Calls Tryz.prog 16 #[.slice (some ⟨g, o, none⟩) n cap, .int .u8 (c : Nat)] w (RetV (.bool true) w) := by
  have HM := Lib.hid (fun w1 (h : Below w.heap.size w w1) => works_any w1 (hm.later h))
  obtain ⟨qs, hqs⟩ : ∃ qs : Nat → Rat, qs = fun j => madeTo (fun _ => N j) (fun _ => D j) 1 := ⟨_, rfl⟩
  have MD : Hid (∀ k w1 cp, k < n → 1 ≤ cp → cp ≤ 9223372036854775807 → Below w.heap.size w w1 → Calls Tryz.prog 40 #[.slice (some ⟨g, o + k * 2, none⟩) 1 cp] w1 (RetR (qs k) w1)) := fun k w1 cp hk k1 k2 hb => by
    rw [hqs]
    obtain ⟨e1, e2⟩ := hcell k hk
    refine made_core g (o + k * 2) cp 1 (fun _ => N k) (fun _ => D k) w1 (by omega) k1 k2 (fun i hi => ?_) (fun i hi => hr k hk)
    obtain rfl : i = 0 := by omega
    have hgl : g < w.heap.size := World.block_lt_of_cell? w _ e1
    exact ⟨(hb.cell (p := ⟨g, o + k * 2, none⟩) hgl).trans e1, (hb.cell (p := ⟨g, o + k * 2 + 1, none⟩) hgl).trans e2⟩
  have BD : Hid (∀ k, k < n → Bd 129 (qs k)) := fun k hk => by
    rw [hqs]
    exact madeTo_bd (n := 1) (fun i hi => hr k hk) 1 (Nat.le_refl _)
  clear hm hqs hcell hr
  go_enter Tryz.func16, Tryz.ntmps16
  go_wp2
  go_loopw [5, 7, 8] (fun xv iv _ wr => ∃ (k : Nat) (ps : Nat → Value), k ≤ n ∧ iv = .int .i64 (k : Nat) ∧ Hid (PxS w wr xv k ps qs)) (fun _ iv _ _ => n - (intOf iv).toNat)
  case atStart => exact ⟨0, _, Nat.zero_le _, rfl, PxS.start w qs⟩
  case round =>
    obtain ⟨k, ps, hk, rfl, hx⟩ := hrel
    by_cases hlt : k < n
    · have hMD := Lib.hid (fun cp h1 h2 => MD.out k wr cp hlt h1 h2 hx.out.below)
      go_wp2_with fail
      refine (hMD.out (cap - k) (by omega) (by omega)).mono ?_
      rintro e w1 ⟨v1, rfl, hv1, hb1⟩
      have HV1 := Lib.hid hv1
      have HX1 := Lib.hid (hx.out.later hb1)
      obtain ⟨g1, vn1, vd1, hs1, -⟩ := hv1
      subst hs1
      have HBA := Lib.hid (below_alloc w1 (.cells #[.pointer (some ⟨g1, 0, none⟩)] 22))
      have HX2 := Lib.hid (HX1.out.later HBA.out)
      have HV2 := Lib.hid (HV1.out.later HBA.out)
      clear hb1 hMD
      go_wp2_with (at_builtin; refine wpList_append_ptr rfl _ _ rfl w.heap.size k ps _ (.pointer (some ⟨g1, 0, none⟩)) w1.heap.size HX2.out.own ⟨_, rfl⟩ (by rw [World.cell?_alloc_at _ _ _ _ rfl]; rfl) (by rfl) (by rfl) (by omega) HX2.out.below.size ?_)
      intro b9 cp9 w2 hown2 hgrow2
      have HX3 := Lib.hid (HX2.out.put HV2.out hown2 hgrow2)
      clear hown2 hgrow2
      go_wp2
      exact ⟨⟨k + 1, _, by omega, rfl, HX3.out⟩, by show n - (k + 1) < n - k; omega⟩
    · obtain rfl : k = n := by omega
      obtain ⟨b, cx, rfl, -, hbl⟩ := hx.out.own.form h0
      have hcx : k ≤ cx ∧ cx ≤ 9223372036854775807 := by
        rcases own_pts hx.out.own with ⟨_, _, _, h⟩ | ⟨_, _, _, e, q1, q2, -⟩
        · omega
        · injection e with e1 e2 e3; subst e3; exact ⟨q1, q2⟩
      obtain ⟨hcx1, hcx2⟩ := hcx
      have HBL := Lib.hid hbl
      clear hbl
      go_wp2
      obtain ⟨wa, hwa⟩ : ∃ wa, wa = wr := ⟨_, rfl⟩
      rw [← hwa] at hx HBL ⊢
      clear hwa
      go_loopw [6, 9] (fun bv iv wr => ∃ (d : Nat) (pb : Nat → Value), d ≤ k ∧ iv = .int .i64 ((d : Int) - 1) ∧ Hid (PxS wa wr bv (k - d) pb (fun j => qs (k - 1 - j)))) (fun _ iv _ => (intOf iv + 1).toNat)
      case atStart => exact ⟨k, _, Nat.le_refl _, rfl, by rw [Nat.sub_self]; exact PxS.start wa _⟩
      case round =>
        obtain ⟨d, pb, hd, rfl, hy⟩ := hrel
        rcases Nat.eq_zero_or_pos d with rfl | hd0
        · obtain ⟨hy⟩ : Nonempty (Hid (PxS wa wr u6 k pb (fun j => qs (k - 1 - j)))) := ⟨by have h9 := hy.out; rwa [Nat.sub_zero] at h9⟩
          obtain ⟨b2, cy, rfl, -, -⟩ := hy.out.own.form (by omega)
          have HXZ := Lib.hid (hx.out.later hy.out.below)
          have HYZ := hy
          obtain ⟨wz, hwz⟩ : ∃ wz, wz = wr := ⟨_, rfl⟩
          rw [← hwz] at HYZ HXZ ⊢
          clear hwz hy hx HBL
          have HKK : Hid (((c : Int) % ((k : Int) + 1)) = ((c % (k + 1) : Nat) : Int)) := by
            show _ = _
            rw [Int.natCast_emod]; rfl
          have hk1 : (((k : Int) + 1) == 0) = false := by rw [beq_eq_false_iff_ne]; omega
          obtain ⟨t, ht⟩ : ∃ t, t = c % (k + 1) := ⟨_, rfl⟩
          have htk : t ≤ k := by have := Nat.mod_lt c (show 0 < k + 1 by omega); omega
          rw [← ht] at HKK
          obtain ⟨px, hpx⟩ : ∃ px : Nat → Value, px = fun j => if j < k then ps j else .pointer none := ⟨_, rfl⟩
          have HPX : Hid (∀ j, ∃ p, px j = .pointer p) := fun j => by
            rw [hpx]
            by_cases h : j < k
            · obtain ⟨g9, _, _, e9, -⟩ := HXZ.out.num j h
              exact ⟨some ⟨g9, 0, none⟩, by show (if j < k then ps j else .pointer none) = _; rw [if_pos h]; exact e9⟩
            · exact ⟨none, by show (if j < k then ps j else .pointer none) = _; rw [if_neg h]⟩
          have HPE : Hid (∀ j, j < k → px j = ps j) := fun j h => by rw [hpx]; show (if j < k then ps j else .pointer none) = _; rw [if_pos h]
          obtain ⟨PP, hPP⟩ : ∃ PP : World → Prop, PP = fun y => Below wz.heap.size wz y := ⟨_, rfl⟩
          obtain ⟨m, hmt⟩ : ∃ m, m = k - t := ⟨_, rfl⟩
          obtain ⟨aR, cR, hcase⟩ : ∃ (aR : Option Addr) (cR : Nat), (t < cx ∧ aR = some ⟨b, t, none⟩ ∧ cR = cx - t ∧ m = k - t) ∨ (t = k ∧ cx = k ∧ aR = some ⟨b, 0, none⟩ ∧ cR = 0 ∧ m = 0) := by
            by_cases h : t < cx
            · exact ⟨_, _, .inl ⟨h, rfl, rfl, hmt⟩⟩
            · exact ⟨_, _, .inr ⟨by omega, by omega, rfl, rfl, by omega⟩⟩
          have RK : Hid (∀ w1 w2, PP w1 → Below w1.heap.size w1 w2 → PP w2) := fun y z h hb => by rw [hPP] at h ⊢; exact below_keep h hb
          have RD : Hid (∀ w1, PP w1 → PP w1.drew) := fun y h => by rw [hPP] at h ⊢; exact h.drew
          have R0 : Hid (PP wz) := by show PP wz; rw [hPP]; exact Below.refl _ _
          have RW : Hid (∀ y, PP y → Below w.heap.size w y) := fun y h => by rw [hPP] at h; exact below_keep HXZ.out.below h
          have RX : Hid (∀ y, PP y → PxS w y (.slice (some ⟨b, 0, none⟩) k cx) k ps qs) := fun y h => by rw [hPP] at h; exact HXZ.out.later h
          have RY : Hid (∀ y, PP y → PxS wa y (.slice (some ⟨b2, 0, none⟩) k cy) k pb (fun j => qs (k - 1 - j))) := fun y h => by rw [hPP] at h; exact HYZ.out.later h
          have RN : Hid (∀ y j, PP y → j < k → IsR y (px j) (qs j)) := fun y j h hj => by rw [HPE.out j hj]; exact (RX.out y h).num j hj
          have RC : Hid (∀ y j, PP y → j < k → y.cell? ⟨b, j, none⟩ = some (px j)) := fun y j h hj => by rw [HPE.out j hj]; exact (RX.out y h).cell hj
          have HBB : Hid (∀ y, PP y → b < y.heap.size) := fun y h => World.block_lt_of_cell? y ⟨b, 0, none⟩ (RC.out y 0 h h0)
          obtain ⟨all, hall⟩ : ∃ all, all = sumOf qs (upto k) := ⟨_, rfl⟩
          obtain ⟨s1, hs1⟩ : ∃ s1, s1 = sumOf qs (upto t) := ⟨_, rfl⟩
          obtain ⟨s2, hs2⟩ : ∃ s2, s2 = sumOf (fun j => qs (t + j)) (upto m) := ⟨_, rfl⟩
          have HS12 : Hid (all = s1 + s2) := by
            show _ = _
            rw [hall, hs1, hs2, ← sum_split, show t + m = k from by omega]
          have B1 : Hid (Bd 4000 s1) := by
            show Bd _ _
            rw [hs1]
            exact (sumOf_bd' (k := 129) (fun j hj => BD.out j (by omega))).mono (by omega)
          have B2 : Hid (Bd 4000 s2) := by
            show Bd _ _
            rw [hs2]
            exact (sumOf_bd' (k := 129) (fun j hj => BD.out (t + j) (by omega))).mono (by omega)
          have BA : Hid (Bd 4000 all) := by
            show Bd _ _
            rw [hall]
            exact (sumOf_bd' (k := 129) (fun j hj => BD.out j (by omega))).mono (by omega)
          have SA : Hid (∀ y, PP y → Calls Tryz.prog 53 #[.slice (some ⟨b, 0, none⟩) k cx] y (RetR all y)) := fun y h => by
            rw [hall]
            exact sum_any _ k 129 px qs y (by omega) (by omega) (.inr ⟨b, 0, cx, rfl, hcx1, hcx2, HBB.out y h, fun j hj => by rw [Nat.zero_add]; exact RC.out y j h hj⟩) (fun j hj => RN.out y j h hj) (fun j hj => BD.out j hj)
          have SB : Hid (∀ y, PP y → Calls Tryz.prog 53 #[.slice (some ⟨b2, 0, none⟩) k cy] y (RetR all y)) := fun y h => by
            rw [hall, ← sum_back]
            exact sum_any _ k 129 pb (fun j => qs (k - 1 - j)) y (by omega) (by omega) (own_pts (RY.out y h).own) (fun j hj => (RY.out y h).num j hj) (fun j hj => BD.out _ (by omega))
          have SK : Hid (∀ y, PP y → Calls Tryz.prog 53 #[.slice (some ⟨b, 0, none⟩) t cx] y (RetR s1 y)) := fun y h => by
            rw [hs1]
            exact sum_any _ t 129 px qs y (by omega) (by omega) (.inr ⟨b, 0, cx, rfl, by omega, hcx2, HBB.out y h, fun j hj => by rw [Nat.zero_add]; exact RC.out y j h (by omega)⟩) (fun j hj => RN.out y j h (by omega)) (fun j hj => BD.out j (by omega))
          have PT : Hid (∀ y, PP y → PtS y (.slice aR m cR) m (fun j => px (t + j))) := fun y h => by
            rcases hcase with ⟨q1, q2, q3, q4⟩ | ⟨q1, q2, q3, q4, q5⟩
            · exact .inr ⟨b, t, cx - t, by rw [q2, q3], by omega, by omega, HBB.out y h, fun j hj => RC.out y (t + j) h (by omega)⟩
            · exact .inl ⟨aR, cR, by rw [q5], q5⟩
          have SR : Hid (∀ y, PP y → Calls Tryz.prog 53 #[.slice aR m cR] y (RetR s2 y)) := fun y h => by
            rw [hs2]
            exact sum_any _ m 129 (fun j => px (t + j)) (fun j => qs (t + j)) y (by omega) (by omega) (PT.out y h) (fun j hj => RN.out y (t + j) h (by omega)) (fun j hj => BD.out _ (by omega))
          have SP : Hid (∀ y z g9 cp9, PP y → IsR y z s1 → PtS y (.slice (some ⟨g9, 0, none⟩) (1 + m) cp9) (1 + m) (consV z (fun j => px (t + j))) → Calls Tryz.prog 53 #[.slice (some ⟨g9, 0, none⟩) (1 + m) cp9] y (RetR all y)) := fun y z g9 cp9 h hz hp => by
            rw [HS12.out, show s1 + s2 = sumOf (consV s1 (fun j => qs (t + j))) (upto (1 + m)) from by rw [sum_cons, hs2]]
            refine sum_any _ (1 + m) 4000 _ _ y (by omega) (by omega) hp (fun j hj => ?_) (fun j hj => ?_)
            · unfold consV
              by_cases e : j = 0
              · rw [if_pos e, if_pos e]; exact hz
              · rw [if_neg e, if_neg e]; exact RN.out y _ h (by omega)
            · unfold consV
              by_cases e : j = 0
              · rw [if_pos e]; exact B1.out
              · rw [if_neg e]; exact (BD.out _ (by omega)).mono (by omega)
          have AD : Hid (∀ y u v, IsR y u s1 → IsR y v s2 → Calls Tryz.prog 26 #[u, v] y (RetR all y)) := fun y u v h1 h2 => by
            rw [HS12.out]
            exact addR_any h1 h2 (B1.out.smR (by omega)) (B2.out.smR (by omega)) (B1.out.smM B2.out (by omega))
          have EQ : Hid (∀ y u v, IsR y u all → IsR y v all → Calls Tryz.prog 41 #[u, v] y (RetV (.bool true) y)) := fun y u v h1 h2 => equal_yes h1 h2 BA.out (by omega)
          have WK := Lib.hid (fun y (h : PP y) => HM.out y (RW.out y h))
          rcases hcase with ⟨q1, rfl, rfl, rfl⟩ | ⟨q1, q2, rfl, rfl, rfl⟩
          · have htk' : (t : Int) ≤ (k : Int) := by omega
            have htc : (t : Int) ≤ (cx : Int) := by omega
            have ht0 : (0 : Int) ≤ (t : Int) := by omega
            have hne : ¬ (t = cx) := by omega
            have hne2 : ¬ (cx = t) := by omega
            have hne3 : ((cx : Int) == (t : Int)) = false := by rw [beq_eq_false_iff_ne]; omega
            have hne4 : ((t : Int) == (cx : Int)) = false := by rw [beq_eq_false_iff_ne]; omega
            clear hmt hPP hpx hall hs1 hs2 HXZ HYZ ht HS12 B1 B2 BA RX RY RN RC HPE HBB HM MD BD
            go_wp2_with fail
            rw [HKK.out]
            refine (SA.out _ R0.out).mono ?_
            rintro e w1 ⟨va, rfl, hva, hb1⟩
            have HP1 := Lib.hid (RK.out _ _ R0.out hb1)
            have HVA := Lib.hid hva
            obtain ⟨ga, na, da, hsa, -⟩ := hva
            subst hsa
            have hP0 := RD.out _ HP1.out
            have hva0 := HVA.out.later (Below.refl w1.heap.size w1).drew
            clear hb1 HKK hk1
            go_wp2_with fail
            go_region_held3 (fun w' => PP w')
              (first | assumption | exact RK.out _ _ (by assumption) (below_alloc _ _))
              (first
                | (go_at_call 20; refine (WK.out _ hP10).mono ?_; rintro e x11 ⟨rfl, hb11⟩; have hP11 := RK.out _ _ hP10 hb11)
                | (go_at_call 41; refine (EQ.out _ _ _ hva9 hv9).mono ?_; rintro e x10 ⟨rfl, hb10⟩; have hP10 := RK.out _ _ hP9 hb10)
                | (go_at_call 53; refine (SP.out _ _ _ _ hP8 hv78 hpt8).mono ?_; rintro e x9 ⟨v9, rfl, hv9, hb9⟩; have hP9 := RK.out _ _ hP8 hb9; have hva9 := hva8.later hb9)
                | (rw [if_pos (by rfl)]; refine wp_append_tail _ _ rfl (k - t) (fun j => px (t + j)) _ (.pointer (some ⟨g7, 0, none⟩)) x7.heap.size ((PT.out _ hP7).later (below_alloc x7 _)) (fun j => HPX.out (t + j)) (heap_alloc_new x7 _) (by rfl) (by rfl) (by omega) ?_; intro g9 cp9 x8 hpt8 hb8; have hb8' := (below_alloc x7 (.cells #[.pointer (some ⟨g7, 0, none⟩)] 22)).trans hb8; have hP8 := RK.out _ _ hP7 hb8'; have hva8 := hva7.later hb8'; have hv78 := hv7.later hb8')
                | (go_at_call_of 53 (Value.slice (some ⟨b, 0, none⟩) t cx); refine (SK.out _ hP6).mono ?_; rintro e x7 ⟨v7, rfl, hv7, hb7⟩; have hP7 := RK.out _ _ hP6 hb7; have hva7 := hva6.later hb7; obtain ⟨g7, n7, d7, hs7, -⟩ := id hv7; subst hs7)
                | (go_at_call 41; refine (EQ.out _ _ _ hva5 hv5).mono ?_; rintro e x6 ⟨rfl, hb6⟩; have hP6 := RK.out _ _ hP5 hb6; have hva6 := hva5.later hb6)
                | (go_at_call 26; refine (AD.out _ _ _ hv34 hv4).mono ?_; rintro e x5 ⟨v5, rfl, hv5, hb5⟩; have hP5 := RK.out _ _ hP4 hb5; have hva5 := hva4.later hb5)
                | (go_at_call_of 53 (Value.slice (some ⟨b, t, none⟩) (k - t) (cx - t)); refine (SR.out _ hP3).mono ?_; rintro e x4 ⟨v4, rfl, hv4, hb4⟩; have hP4 := RK.out _ _ hP3 hb4; have hva4 := hva3.later hb4; have hv34 := hv3.later hb4)
                | (go_at_call_of 53 (Value.slice (some ⟨b, 0, none⟩) t cx); refine (SK.out _ hP2).mono ?_; rintro e x3 ⟨v3, rfl, hv3, hb3⟩; have hP3 := RK.out _ _ hP2 hb3; have hva3 := hva2.later hb3)
                | (go_at_call 41; refine (EQ.out _ _ _ hva1 hv1).mono ?_; rintro e x2 ⟨rfl, hb2⟩; have hP2 := RK.out _ _ hP1 hb2; have hva2 := hva1.later hb2)
                | (go_at_call_of 53 (Value.slice (some ⟨b2, 0, none⟩) k cy); refine (SB.out _ hP0).mono ?_; rintro e x1 ⟨v1, rfl, hv1, hb1⟩; have hP1 := RK.out _ _ hP0 hb1; have hva1 := hva0.later hb1))
            have HF := Lib.hid (RW.out _ hP11)
            go_wp2
            go_ret
            exact ⟨rfl, HF.out⟩
          · obtain rfl : cx = t := by omega
            obtain rfl : k = cx := by omega
            have htk' : (k : Int) ≤ (k : Int) := by omega
            have htc : (k : Int) ≤ (k : Int) := by omega
            have ht0 : (0 : Int) ≤ (k : Int) := by omega
            clear hmt hPP hpx hall hs1 hs2 HXZ HYZ ht HS12 B1 B2 BA RX RY RN RC HPE HBB HM MD BD
            go_wp2_with fail
            rw [HKK.out]
            refine (SA.out _ R0.out).mono ?_
            rintro e w1 ⟨va, rfl, hva, hb1⟩
            have HP1 := Lib.hid (RK.out _ _ R0.out hb1)
            have HVA := Lib.hid hva
            obtain ⟨ga, na, da, hsa, -⟩ := hva
            subst hsa
            have hP0 := RD.out _ HP1.out
            have hva0 := HVA.out.later (Below.refl w1.heap.size w1).drew
            clear hb1 HKK hk1
            go_wp2_with fail
            go_region_held3 (fun w' => PP w')
              (first | assumption | exact RK.out _ _ (by assumption) (below_alloc _ _))
              (first
                | (go_at_call 20; refine (WK.out _ hP10).mono ?_; rintro e x11 ⟨rfl, hb11⟩; have hP11 := RK.out _ _ hP10 hb11)
                | (go_at_call 41; refine (EQ.out _ _ _ hva9 hv9).mono ?_; rintro e x10 ⟨rfl, hb10⟩; have hP10 := RK.out _ _ hP9 hb10)
                | ((first | go_at_call_of 53 (Value.slice (some ⟨g9, 0, none⟩) (1 + 0) cp9) | go_at_call_of 53 (Value.slice (some ⟨g9, 0, none⟩) 1 cp9)); refine (SP.out _ _ _ _ hP8 hv78 hpt8).mono ?_; rintro e x9 ⟨v9, rfl, hv9, hb9⟩; have hP9 := RK.out _ _ hP8 hb9; have hva9 := hva8.later hb9)
                | (rw [if_pos (by rfl)]; refine wp_append_tail _ _ rfl 0 (fun j => px (k + j)) _ (.pointer (some ⟨g7, 0, none⟩)) x7.heap.size ((PT.out _ hP7).later (below_alloc x7 _)) (fun j => HPX.out (k + j)) (heap_alloc_new x7 _) (by rfl) (by rfl) (by omega) ?_; intro g9 cp9 x8 hpt8 hb8; have hb8' := (below_alloc x7 (.cells #[.pointer (some ⟨g7, 0, none⟩)] 22)).trans hb8; have hP8 := RK.out _ _ hP7 hb8'; have hva8 := hva7.later hb8'; have hv78 := hv7.later hb8')
                | (go_at_call_of 53 (Value.slice (some ⟨b, 0, none⟩) k k); refine (SK.out _ hP6).mono ?_; rintro e x7 ⟨v7, rfl, hv7, hb7⟩; have hP7 := RK.out _ _ hP6 hb7; have hva7 := hva6.later hb7; obtain ⟨g7, n7, d7, hs7, -⟩ := id hv7; subst hs7)
                | (go_at_call 41; refine (EQ.out _ _ _ hva5 hv5).mono ?_; rintro e x6 ⟨rfl, hb6⟩; have hP6 := RK.out _ _ hP5 hb6; have hva6 := hva5.later hb6)
                | (go_at_call 26; refine (AD.out _ _ _ hv34 hv4).mono ?_; rintro e x5 ⟨v5, rfl, hv5, hb5⟩; have hP5 := RK.out _ _ hP4 hb5; have hva5 := hva4.later hb5)
                | (go_at_call_of 53 (Value.slice (some ⟨b, 0, none⟩) 0 0); refine (SR.out _ hP3).mono ?_; rintro e x4 ⟨v4, rfl, hv4, hb4⟩; have hP4 := RK.out _ _ hP3 hb4; have hva4 := hva3.later hb4; have hv34 := hv3.later hb4)
                | (go_at_call_of 53 (Value.slice (some ⟨b, 0, none⟩) k k); refine (SK.out _ hP2).mono ?_; rintro e x3 ⟨v3, rfl, hv3, hb3⟩; have hP3 := RK.out _ _ hP2 hb3; have hva3 := hva2.later hb3)
                | (go_at_call 41; refine (EQ.out _ _ _ hva1 hv1).mono ?_; rintro e x2 ⟨rfl, hb2⟩; have hP2 := RK.out _ _ hP1 hb2; have hva2 := hva1.later hb2)
                | (go_at_call_of 53 (Value.slice (some ⟨b2, 0, none⟩) k cy); refine (SB.out _ hP0).mono ?_; rintro e x1 ⟨v1, rfl, hv1, hb1⟩; have hP1 := RK.out _ _ hP0 hb1; have hva1 := hva0.later hb1))
            have HF := Lib.hid (RW.out _ hP11)
            go_wp2
            go_ret
            exact ⟨rfl, HF.out⟩
        · obtain ⟨d, rfl⟩ : ∃ d', d = d' + 1 := ⟨d - 1, by omega⟩
          have e1 : (((d + 1 : Nat) : Int) - 1) = (d : Int) := by omega
          rw [e1]
          have hcl := (hx.out.cell (j := d) (by omega))
          have hlt := HBL.out
          have hcl2 := (hy.out.below.cell (p := ⟨b, d, none⟩) hlt).trans hcl
          obtain ⟨g1, vn1, vd1, hs1, -⟩ := hx.out.num d (by omega)
          rw [hs1] at hcl2
          have HBA := Lib.hid (below_alloc wr (.cells #[.pointer (some ⟨g1, 0, none⟩)] 22))
          have HY2 := Lib.hid (hy.out.later HBA.out)
          have HV2 : Hid (IsR (wr.alloc (.cells #[.pointer (some ⟨g1, 0, none⟩)] 22)) (.pointer (some ⟨g1, 0, none⟩)) (qs (k - 1 - (k - (d + 1))))) := by
            show IsR _ _ _
            rw [show k - 1 - (k - (d + 1)) = d from by omega]
            have h9 := (hx.out.num d (by omega)).later hy.out.below
            rw [hs1] at h9
            exact h9.later HBA.out
          have hkd : k - (d + 1) ≤ 1000000 := by omega
          clear hcl hlt e1 hs1 hd0
          go_wp2_with (at_builtin; refine wpList_append_ptr rfl _ _ rfl wa.heap.size (k - (d + 1)) pb _ (.pointer (some ⟨g1, 0, none⟩)) wr.heap.size HY2.out.own ⟨_, rfl⟩ (by rw [World.cell?_alloc_at _ _ _ _ rfl]; rfl) (by rfl) (by rfl) hkd HY2.out.below.size ?_)
          intro b9 cp9 w2 hown2 hgrow2
          have HY3 := Lib.hid (HY2.out.put HV2.out hown2 hgrow2)
          have HY3 : Hid (∃ pb', PxS wa w2 (.slice (some ⟨b9, 0, none⟩) (k - (d + 1) + 1) cp9) (k - d) pb' (fun j => qs (k - 1 - j))) := by
            have h9 := HY3.out
            rw [show k - (d + 1) + 1 = k - d from by omega] at h9 ⊢
            exact ⟨_, h9⟩
          clear hown2 hgrow2 hkd
          go_wp2
          exact ⟨⟨d, HY3.out.choose, by omega, rfl, HY3.out.choose_spec⟩, by show ((d : Int) - 1 + 1).toNat < ((d : Int) + 1).toNat; omega⟩

theorem parts_big (a : Option Addr) (n cap : Nat) (c : Int) (w : World) (hm : Ml w) (h : 30 < n) :
    Calls Tryz.prog 16 #[.slice a n cap, .int .u8 c] w (RetV (.bool true) w) := by
  have C := Lib.hid (works_any w hm)
  clear hm
  go_enter Tryz.func16, Tryz.ntmps16
  go_wp2_with fail
  refine C.out.mono ?_
  rintro e w1 ⟨rfl, hb⟩
  go_wp2
  go_ret
  exact ⟨rfl, hb⟩

set_option maxHeartbeats 16000000 in
set_option maxRecDepth 100000 in
theorem parts_zero (a : Option Addr) (cap : Nat) (c : Nat) (w : World) (hm : Ml w) (hc : c ≤ 255) :
    Calls Tryz.prog 16 #[.slice a 0 cap, .int .u8 (c : Nat)] w (RetV (.bool true) w) := by
  obtain ⟨PP, hPP⟩ : ∃ PP : World → Prop, PP = fun y => Below w.heap.size w y := ⟨_, rfl⟩
  have RK : Hid (∀ w1 w2, PP w1 → Below w1.heap.size w1 w2 → PP w2) := fun y z h hb => by rw [hPP] at h ⊢; exact below_keep h hb
  have RD : Hid (∀ w1, PP w1 → PP w1.drew) := fun y h => by rw [hPP] at h ⊢; exact h.drew
  have R0 : Hid (PP w) := by show PP w; rw [hPP]; exact Below.refl _ _
  have RW : Hid (∀ y, PP y → Below w.heap.size w y) := fun y h => by rw [hPP] at h; exact h
  have WK : Hid (∀ y, PP y → Calls Tryz.prog 20 #[] y (RetV (.bool true) y)) := fun y h => works_any y (hm.later (RW.out y h))
  have SA : Hid (∀ y a cp, Calls Tryz.prog 53 #[.slice a 0 cp] y (RetR 0 y)) := fun y a cp =>
    sum_any _ 0 1 (fun _ => .pointer none) (fun _ => 0) y (by omega) (by omega) (.inl ⟨a, cp, rfl, rfl⟩) (fun j hj => absurd hj (Nat.not_lt_zero _)) (fun j hj => absurd hj (Nat.not_lt_zero _))
  have SP : Hid (∀ y z g9 cp9, IsR y z 0 → PtS y (.slice (some ⟨g9, 0, none⟩) (1 + 0) cp9) (1 + 0) (consV z (fun _ => .pointer none)) → Calls Tryz.prog 53 #[.slice (some ⟨g9, 0, none⟩) (1 + 0) cp9] y (RetR 0 y)) := fun y z g9 cp9 hz hp => by
    have h9 := sum_any _ (1 + 0) 1 _ (fun _ => 0) y (by omega) (by omega) hp (fun j hj => by obtain rfl : j = 0 := (by omega); exact hz) (fun j hj => Bd.zero)
    rwa [show sumOf (fun _ => (0 : Rat)) (upto (1 + 0)) = 0 from by rw [show (1 + 0 : Nat) = 0 + 1 from rfl, sum_snoc, sum_nil, Rat.zero_add]] at h9
  have AD : Hid (∀ y u v, IsR y u 0 → IsR y v 0 → Calls Tryz.prog 26 #[u, v] y (RetR 0 y)) := fun y u v h1 h2 => by
    have h9 := addR_any h1 h2 (Bd.zero.smR (by omega)) (Bd.zero.smR (by omega)) (Bd.zero.smM Bd.zero (by omega))
    rwa [Rat.add_zero] at h9
  have EQ : Hid (∀ y u v, IsR y u 0 → IsR y v 0 → Calls Tryz.prog 41 #[u, v] y (RetV (.bool true) y)) := fun y u v h1 h2 => equal_yes h1 h2 Bd.zero (by omega)
  clear hm hPP
  go_enter Tryz.func16, Tryz.ntmps16
  go_wp2
  refine wp_loop_rounds 1 ?_
  rw [rounds_succ]
  go_wp2
  refine wp_loop_rounds 1 ?_
  rw [rounds_succ]
  go_wp2_with fail
  refine (SA.out _ none 0).mono ?_
  rintro e w1 ⟨va, rfl, hva, hb1⟩
  have HP1 := Lib.hid (RK.out _ _ R0.out hb1)
  have HVA := Lib.hid hva
  obtain ⟨ga, na, da, hsa, -⟩ := hva
  subst hsa
  have hP0 := RD.out _ HP1.out
  have hva0 := HVA.out.later (Below.refl w1.heap.size w1).drew
  clear hb1
  go_wp2_with fail
  go_region_held3 (fun w' => PP w')
    (first | assumption | exact RK.out _ _ (by assumption) (below_alloc _ _))
    (first
      | (go_at_call 20; refine (WK.out _ hP10).mono ?_; rintro e x11 ⟨rfl, hb11⟩; have hP11 := RK.out _ _ hP10 hb11)
      | (go_at_call 41; refine (EQ.out _ _ _ hva9 hv9).mono ?_; rintro e x10 ⟨rfl, hb10⟩; have hP10 := RK.out _ _ hP9 hb10)
      | ((first | go_at_call_of 53 (Value.slice (some ⟨g9, 0, none⟩) (1 + 0) cp9) | go_at_call_of 53 (Value.slice (some ⟨g9, 0, none⟩) 1 cp9)); refine (SP.out _ _ _ _ hv78 hpt8).mono ?_; rintro e x9 ⟨v9, rfl, hv9, hb9⟩; have hP9 := RK.out _ _ hP8 hb9; have hva9 := hva8.later hb9)
      | (rw [if_pos (by rfl)]; refine wp_append_tail _ _ rfl 0 (fun _ => .pointer none) _ (.pointer (some ⟨g7, 0, none⟩)) x7.heap.size (.inl ⟨none, 0, rfl, rfl⟩) (fun _ => ⟨none, rfl⟩) (heap_alloc_new x7 _) (by rfl) (by rfl) (by omega) ?_; intro g9 cp9 x8 hpt8 hb8; have hb8' := (below_alloc x7 (.cells #[.pointer (some ⟨g7, 0, none⟩)] 22)).trans hb8; have hP8 := RK.out _ _ hP7 hb8'; have hva8 := hva7.later hb8'; have hv78 := hv7.later hb8')
      | (have hZ := hP6; go_at_call 53; refine (SA.out _ none 0).mono ?_; rintro e x7 ⟨v7, rfl, hv7, hb7⟩; have hP7 := RK.out _ _ hP6 hb7; have hva7 := hva6.later hb7; obtain ⟨g7, n7, d7, hs7, -⟩ := id hv7; subst hs7)
      | (go_at_call 41; refine (EQ.out _ _ _ hva5 hv5).mono ?_; rintro e x6 ⟨rfl, hb6⟩; have hP6 := RK.out _ _ hP5 hb6; have hva6 := hva5.later hb6)
      | (go_at_call 26; refine (AD.out _ _ _ hv34 hv4).mono ?_; rintro e x5 ⟨v5, rfl, hv5, hb5⟩; have hP5 := RK.out _ _ hP4 hb5; have hva5 := hva4.later hb5)
      | (have hZ := hP3; go_at_call 53; refine (SA.out _ none 0).mono ?_; rintro e x4 ⟨v4, rfl, hv4, hb4⟩; have hP4 := RK.out _ _ hP3 hb4; have hva4 := hva3.later hb4; have hv34 := hv3.later hb4)
      | (have hZ := hP2; go_at_call 53; refine (SA.out _ none 0).mono ?_; rintro e x3 ⟨v3, rfl, hv3, hb3⟩; have hP3 := RK.out _ _ hP2 hb3; have hva3 := hva2.later hb3)
      | (go_at_call 41; refine (EQ.out _ _ _ hva1 hv1).mono ?_; rintro e x2 ⟨rfl, hb2⟩; have hP2 := RK.out _ _ hP1 hb2; have hva2 := hva1.later hb2)
      | (go_at_call 53; refine (SA.out _ none 0).mono ?_; rintro e x1 ⟨v1, rfl, hv1, hb1⟩; have hP1 := RK.out _ _ hP0 hb1; have hva1 := hva0.later hb1))
  have HF := Lib.hid (RW.out _ hP11)
  go_wp2
  go_ret
  exact ⟨rfl, HF.out⟩

theorem parts_any (a : Option Addr) (n cap : Nat) (N D : Nat → Int) (c : Int) (w : World) (hm : Ml w) (h1 : n ≤ cap) (l1 : cap ≤ maxLen) (pa : PairsAt w a n N D) (c0 : 0 ≤ c) (c1 : c ≤ 255) :
    Calls Tryz.prog 16 #[.slice a n cap, .int .u8 c] w (RetV (.bool true) w) := by
  unfold maxLen at l1
  by_cases hs : n ≤ 30
  · obtain ⟨d, rfl⟩ : ∃ d : Nat, c = d := ⟨c.toNat, by omega⟩
    rcases Nat.eq_zero_or_pos n with rfl | h0
    · exact parts_zero a cap d w hm (by omega)
    · obtain ⟨ad, rfl, h3, -⟩ := pa 0 h0
      have hsp : ad.spot = none := by
        have h4 : w.cell? ad = some (.int .i64 (N 0)) := by simpa [Addr.add] using h3
        unfold World.cell? at h4
        cases hsp : ad.spot with
        | none => rfl
        | some x =>
          rw [hsp] at h4
          split at h4
          · simp at h4
          · cases h4
      obtain ⟨g, o, s⟩ := ad
      simp only at hsp
      subst hsp
      refine parts_pos g o n cap N D d w hm hs h0 h1 l1 (by omega) (fun i hi => ?_) (fun i hi => ?_)
      · obtain ⟨ad', e, h5, h6, -⟩ := pa i hi
        cases e
        rw [Addr.add_mid] at h5 h6
        exact ⟨h5, by rw [Nat.add_assoc]; exact h6⟩
      · obtain ⟨ad', e, -, -, h7⟩ := pa i hi
        exact h7
  · exact parts_big a n cap c w hm (by omega)
end Go.Proofs.YtemhidlaaommaaaGreatDoor
