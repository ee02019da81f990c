/- The walk of SpaceCheck. -/
import Derived.Test.YtpdhlgkcjakcgaaGreatDoorS15
import Derived.Test.YtpdhlgkcjakcgaaGreatDoorS17
import Derived.Test.YtpdhlgkcjakcgaaGreatDoorS19
namespace Go.Proofs.YtpdhlgkcjakcgaaGreatDoor
open Go.RowKit

set_option maxHeartbeats 6400000 in
set_option maxRecDepth 100000 in
theorem spaceCheck_any (x : ArrT) (vd va vc : Value) (w : World) (hm : Ml w) (hx : ArrR w vd va vc x) (hs : StrD x.dims) (hsa : StrA x.attrs) (hsc : StrC x.cells) :
    Calls Tryz.prog 4 #[.agg #[vd, va, vc]] w (RetV' (.bool true) w) := by
  have CW := Lib.hid (fun w1 (hb : Below w.heap.size w w1) => works_any w1 (hm.later hb))
  have CF := Lib.hid (fun w1 (hb : Below w.heap.size w w1) => few_any x 60 vd va vc w1 (hx.later hb))
  obtain ⟨E, hE⟩ : ∃ E, E = checkE x := ⟨_, rfl⟩
  have C1 := Lib.hid (fun w1 (hb : Below w.heap.size w w1) => hE ▸ checkA_any x vd va vc w1 (hx.later hb) hs hsa)
  have C2 := Lib.hid (fun w1 (hb : Below w.heap.size w w1) => hE ▸ rarr_any x vd va vc w1 (hx.later hb) hs hsa hsc)
  obtain ⟨p1, cap1, rfl, c1, c1'⟩ := hx.dims.shape
  obtain ⟨p2, cap2, rfl, c2, c2'⟩ := hx.attrs.shape
  obtain ⟨p3, cap3, rfl, c3, c3'⟩ := hx.cells.shape
  obtain ⟨W1, hW1⟩ : ∃ W1, W1 = w.alloc (.cells #[.slice p1 x.dims.length cap1, .slice p2 x.attrs.length cap2, .slice p3 x.cells.length cap3] 34) := ⟨_, rfl⟩
  have HBX : Hid (∀ w', Below W1.heap.size W1 w' → w'.cell? ⟨w.heap.size, 0, none⟩ = some (.slice p1 x.dims.length cap1) ∧ w'.cell? ⟨w.heap.size, 1, none⟩ = some (.slice p2 x.attrs.length cap2) ∧ w'.cell? ⟨w.heap.size, 2, none⟩ = some (.slice p3 x.cells.length cap3) ∧ Below W1.heap.size W1 w') := fun w' hb => by
    have hs : W1.heap.size = w.heap.size + 1 := by rw [hW1]; simp
    have hc : ∀ j, w'.cell? ⟨w.heap.size, j, none⟩ = W1.cell? ⟨w.heap.size, j, none⟩ := fun j => hb.cell (p := ⟨w.heap.size, j, none⟩) (by rw [hs]; exact Nat.lt_succ_self _)
    refine ⟨?_, ?_, ?_, hb⟩ <;> (rw [hc, hW1, World.cell?_alloc_at _ _ _ _ rfl]; rfl)
  have HB1 : Hid (Below w.heap.size w W1) := by show Below _ _ _; rw [hW1]; exact below_alloc _ _
  clear hm hx hs hsa hsc hE
  go_enter Tryz.func4, Tryz.ntmps4
  go_wp2_with fail
  refine (CF.out _ (below_alloc _ _)).mono ?_
  rintro e w2 ⟨b, rfl, -, hb⟩
  rw [← hW1] at hb
  have HB2 := Lib.hid hb
  clear CF hb hW1
  cases b with
  | false =>
    go_wp2_with fail
    refine (CW.out _ (below_keep HB1.out HB2.out)).mono ?_
    rintro e w3 ⟨rfl, hb⟩
    have HB3 := Lib.hid ((below_keep HB1.out HB2.out).trans (hb.mono (below_keep HB1.out HB2.out).size))
    clear hb CW
    go_wp2
    go_ret
    exact ⟨rfl, HB3.out⟩
  | true =>
    go_wp2_with fail
    go_region_held3 (fun w' => w'.cell? ⟨w.heap.size, 0, none⟩ = some (.slice p1 x.dims.length cap1) ∧ w'.cell? ⟨w.heap.size, 1, none⟩ = some (.slice p2 x.attrs.length cap2) ∧ w'.cell? ⟨w.heap.size, 2, none⟩ = some (.slice p3 x.cells.length cap3) ∧ Below W1.heap.size W1 w')
      (first | exact HBX.out _ HB2.out.drew | exact HBX.out _ (by assumption))
      (first
        | (go_at_call 21; refine (C1.out _ (below_keep HB1.out HB2.out.drew)).mono ?_; rintro e w3 ⟨rfl, hb⟩; have hb3 : Below W1.heap.size W1 w3 := below_keep HB2.out.drew hb)
        | (go_at_call 22; refine (C2.out _ (below_keep HB1.out hb3)).mono ?_; rintro e w4 ⟨rfl, hb'⟩; have hb4 : Below W1.heap.size W1 w4 := below_keep hb3 hb')
        | (go_at_call 15; refine (CW.out _ (below_keep HB1.out hb4)).mono ?_; rintro e w5 ⟨rfl, hb''⟩; have hb5 : Below W1.heap.size W1 w5 := below_keep hb4 hb''))
    have HB5 := Lib.hid (below_keep HB1.out hb5)
    clear hb hb' hb'' hb3 hb4 hb5 C1 C2 CW
    go_wp2
    go_ret
    exact ⟨rfl, HB5.out⟩
end Go.Proofs.YtpdhlgkcjakcgaaGreatDoor
