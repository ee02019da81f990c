/- The walk of SpaceSchema. -/
import Derived.Test.YtpdhlgkcjakcgaaGreatDoorS15
import Derived.Test.YtpdhlgkcjakcgaaGreatDoorS17
import Derived.Test.YtpdhlgkcjakcgaaGreatDoorS18
namespace Go.Proofs.YtpdhlgkcjakcgaaGreatDoor
open Go.RowKit

set_option maxHeartbeats 6400000 in
set_option maxRecDepth 100000 in
theorem spaceSchema_any (d : List DimT) (a : List AttrT) (nm : List UInt8) (v u : Value) (w : World) (hm : Ml w) (hd : Dims w v d) (ha : Attrs w u a) (hs : StrD d) (hsa : StrA a) (hl : nm.length ≤ 9223372036854775807) :
    Calls Tryz.prog 3 #[v, u, strV nm] w (RetV' (.bool true) w) := by
  have CW := Lib.hid (fun w1 (hb : Below w.heap.size w w1) => works_any w1 (hm.later hb))
  have CL := Lib.hid (fun w1 (hb : Below w.heap.size w w1) => lschema_any d a v u w1 (hd.later DimR.lasts hb) (ha.later AttrR.lasts hb))
  have CH := Lib.hid (fun w1 => lshort_any nm w1)
  obtain ⟨B, hB⟩ : ∃ B, B = nameB nm := ⟨_, rfl⟩
  have CN1 := Lib.hid (fun w1 => hB ▸ name_any nm w1 hl)
  have CN2 := Lib.hid (fun w1 => hB ▸ rname_any nm w1 hl)
  obtain ⟨E, hE⟩ : ∃ E, E = schemaE d a := ⟨_, rfl⟩
  have CS1 := Lib.hid (fun w1 (hb : Below w.heap.size w w1) => hE ▸ schema_any d a v u w1 (hd.later DimR.lasts hb) (ha.later AttrR.lasts hb) hs hsa)
  have CS2 := Lib.hid (fun w1 (hb : Below w.heap.size w w1) => hE ▸ rschema_any d a v u w1 (hd.later DimR.lasts hb) (ha.later AttrR.lasts hb) hs hsa)
  have HD := Lib.hid hd
  have HS := Lib.hid hs
  obtain ⟨av, cap, rfl, c1, c2⟩ := hd.shape
  obtain ⟨au, capu, rfl, u1, u2⟩ := ha.shape
  clear hd ha hs hsa hm hB hE
  go_enter Tryz.func3, Tryz.ntmps3
  go_wp2_with fail
  refine (CL.out _ (Below.refl _ _)).mono ?_
  rintro e w1 ⟨b, rfl, -, rfl⟩
  clear CL
  cases b with
  | false =>
    go_wp2_with fail
    refine (CW.out _ (Below.refl _ _)).mono ?_
    rintro e w2 ⟨rfl, hb⟩
    have HB := Lib.hid hb
    clear hb CW
    go_wp2
    go_ret
    exact ⟨rfl, HB.out⟩
  | true =>
    by_cases hsn : nm.length ≤ 40
    · rw [decide_eq_true hsn] at CH
      clear hsn
      go_wp2_with fail
      refine (CH.out _).mono ?_
      rintro e w2 ⟨rfl, rfl⟩
      clear CH
      go_wp2
      go_loopw [7] (fun iv wr => ∃ i : Nat, i ≤ d.length ∧ iv = .int .i64 (i : Nat) ∧ Below w2.heap.size w2 wr) (fun iv _ => d.length - (intOf iv).toNat)
      case atStart => exact ⟨0, Nat.zero_le _, rfl, Below.refl _ _⟩
      case round =>
        obtain ⟨i, hi, rfl, hbw⟩ := hrel
        have HBW := Lib.hid hbw
        have HDW := Lib.hid (HD.out.later DimR.lasts hbw)
        clear hbw
        by_cases hlt : i < d.length
        · obtain ⟨g, o, x, ea, hx, hr⟩ := HDW.out.at i hlt
          subst ea
          have x0 := hr.name
          have HXS := Lib.hid (HS.out x (List.mem_of_getElem? hx))
          obtain ⟨nx, lo, hi'⟩ := x
          simp only at x0
          have HI1 : Hid (i + 1 ≤ d.length) := hlt
          have HI2 : Hid (d.length - (i + 1) < d.length - i) := by show _ < _; omega
          have ib0 : (0 : Int) ≤ (i : Int) := by omega
          have ib1 : (i : Int) < (d.length : Int) := by omega
          obtain ⟨B2, hB2⟩ : ∃ B, B = nameB nx := ⟨_, rfl⟩
          have C1 := Lib.hid (fun w1 => hB2 ▸ name_any nx w1 HXS.out)
          have C2 := Lib.hid (fun w1 => hB2 ▸ rname_any nx w1 HXS.out)
          have HX0 := Lib.hid x0
          clear hr hx hB2
          have K : Hid (∀ w', Below wr.heap.size wr w' → w'.cell? ⟨g, o + i * 3, none⟩ = some (strV nx) ∧ Below wr.heap.size wr w') := fun w' h => ⟨cell_later HX0.out h, h⟩
          go_wp2_with fail
          go_region_held3 (fun w' => w'.cell? ⟨g, o + i * 3, none⟩ = some (strV nx) ∧ Below wr.heap.size wr w')
            (first | exact K.out _ (Below.refl _ _).drew | exact K.out _ (by assumption))
            (first
              | (go_at_call 16; refine (C1.out _).mono ?_; rintro e w3 ⟨rfl, hb2⟩; have hb3 : Below wr.heap.size wr w3 := below_keep (Below.refl _ _).drew hb2)
              | (go_at_call 17; refine (C2.out _).mono ?_; rintro e w4 ⟨rfl, hb4⟩; have hb5 : Below wr.heap.size wr w4 := below_keep hb3 hb4))
          have HB5 := Lib.hid (HBW.out.trans (hb5.mono HBW.out.size))
          clear hb2 hb3 hb4 hb5 C1 C2
          go_wp2
          exact ⟨⟨i + 1, HI1.out, by go_num, HB5.out⟩, HI2.out⟩
        · obtain rfl : i = d.length := by omega
          go_wp2_with fail
          refine (CN1.out _).mono ?_
          rintro e w3 ⟨rfl, hb⟩
          have HB3 := Lib.hid (HBW.out.trans (hb.mono HBW.out.size))
          clear hb CN1
          go_wp2_with fail
          refine (CN2.out _).mono ?_
          rintro e w4 ⟨rfl, hb⟩
          have HB4 := Lib.hid (HB3.out.trans (hb.mono HB3.out.size))
          clear hb CN2
          go_wp2_with fail
          refine (CS1.out _ HB4.out).mono ?_
          rintro e w5 ⟨rfl, hb⟩
          have HB5 := Lib.hid (HB4.out.trans (hb.mono HB4.out.size))
          clear hb CS1
          go_wp2_with fail
          refine (CS2.out _ HB5.out).mono ?_
          rintro e w6 ⟨rfl, hb⟩
          have HB6 := Lib.hid (HB5.out.trans (hb.mono HB5.out.size))
          clear hb CS2
          go_wp2_with fail
          refine (CW.out _ HB6.out).mono ?_
          rintro e w7 ⟨rfl, hb⟩
          have HB7 := Lib.hid (HB6.out.trans (hb.mono HB6.out.size))
          clear hb CW
          go_wp2
          go_ret
          exact ⟨rfl, HB7.out⟩
    · rw [decide_eq_false hsn] at CH
      clear hsn
      go_wp2_with fail
      refine (CH.out _).mono ?_
      rintro e w2 ⟨rfl, rfl⟩
      clear CH
      go_wp2_with fail
      refine (CW.out _ (Below.refl _ _)).mono ?_
      rintro e w3 ⟨rfl, hb⟩
      have HB := Lib.hid hb
      clear hb CW
      go_wp2
      go_ret
      exact ⟨rfl, HB.out⟩
end Go.Proofs.YtpdhlgkcjakcgaaGreatDoor
