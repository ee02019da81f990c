/- Lemmas and contracts, each under its own condition: The reference of layer 2, contract: Cell. The reference of layer 2, contract: Check. -/
import Derived.BigQuiet
import Derived.IntWalk
import Derived.Test.YthlkcppbljpooaaGreatDoorS18
import Derived.Test.YthlkcppbljpooaaGreatDoorS5
import Derived.Test.YthlkcppbljpooaaGreatDoorS50
import Derived.Test.YthlkcppbljpooaaGreatDoorS58
/- The reference of layer 2, contract: Cell. -/
namespace Go.Proofs.YthlkcppbljpooaaGreatDoor
open Go.RowKit

theorem rcell_shape (d : List DimT) (a : List AttrT) (c : CellT) (v u v1 v2 : Value) (w : World) (hd : Dims w v d) (ha : Attrs w u a) (h1 : Ints w v1 c.co) (h2 : Vals w v2 c.vals) (h : c.co.length ≠ d.length ∨ c.vals.length ≠ a.length) :
  Calls Tryz.prog 27 #[v, u, .agg #[v1, v2]] w (RetV' (.int .i64 13) w) := by
 obtain ⟨p, cap, rfl, c1, c2⟩ := hd.shape
 obtain ⟨p', cap', rfl, c1', c2'⟩ := ha.shape
 obtain ⟨q, capq, rfl, e1, e2⟩ := h1.shape
 obtain ⟨q', capq', rfl, e1', e2'⟩ := h2.shape
 clear hd ha h1 h2
 by_cases h0 : c.co.length = d.length
 ·have h5 : ((c.co.length : Int) != d.length) = false := by rw [bne_eq_false_iff_eq]; omega
  have h6 : ((c.vals.length : Int) != a.length) = true := by rw [bne_iff_ne]; rcases h with h | h <;> omega
  clear h h0
  go_enter Tryz.func27, Tryz.ntmps27
  go_wp2
  go_ret
  exact ⟨rfl, below_alloc _ _⟩
 ·have h5 : ((c.co.length : Int) != d.length) = true := by rw [bne_iff_ne]; omega
  clear h h0
  go_enter Tryz.func27, Tryz.ntmps27
  go_wp2
  go_ret
  exact ⟨rfl, below_alloc _ _⟩
set_option maxHeartbeats 3200000 in
set_option maxRecDepth 100000 in
theorem rcell_range (d : List DimT) (a : List AttrT) (c : CellT) (v u v1 v2 : Value) (w : World) (hd : Dims w v d) (ha : Attrs w u a) (h1 : Ints w v1 c.co) (h2 : Vals w v2 c.vals) (h : c.co.length = d.length) (h' : c.vals.length = a.length) (ho : ofL d c.co = false) :
  Calls Tryz.prog 27 #[v, u, .agg #[v1, v2]] w (RetV' (.int .i64 3) w) := by
 have C : Hid (∀ w1, Below w.heap.size w w1 → Calls Tryz.prog 69 #[v, v1] w1 (RetV' (.bool (ofB d c.co)) w1)) := fun w1 hb => rof_any d c.co v v1 w1 (hd.later DimR.lasts hb) (h1.later IntR.lasts hb)
 rw [show ofB d c.co = false from by unfold ofB; rw [ho, Bool.and_false]] at C
 obtain ⟨p, cap, rfl, c1, c2⟩ := hd.shape
 obtain ⟨p', cap', rfl, c1', c2'⟩ := ha.shape
 obtain ⟨q, capq, rfl, e1, e2⟩ := h1.shape
 obtain ⟨q', capq', rfl, e1', e2'⟩ := h2.shape
 simp only [h, h'] at C ⊢
 clear hd ha h1 h2 h h' ho e1 e1'
 go_enter Tryz.func27, Tryz.ntmps27
 go_wp2_with fail
 refine (C.out _ (below_alloc _ _)).mono ?_
 rintro e w1 ⟨rfl, hb⟩
 have HB := Lib.hid (below_keep (below_alloc w _) hb)
 clear hb C
 go_wp2
 go_ret
 exact ⟨rfl, HB.out⟩
def StrV (l : List Va) : Prop := ∀ x ∈ l, x.str.length ≤ 9223372036854775807
set_option maxHeartbeats 3200000 in
set_option maxRecDepth 100000 in
theorem rcell_core (d : List DimT) (a : List AttrT) (c : CellT) (v u v1 v2 : Value) (w : World) (hd : Dims w v d) (ha : Attrs w u a) (h1 : Ints w v1 c.co) (h2 : Vals w v2 c.vals) (h : c.co.length = d.length) (h' : c.vals.length = a.length) (ho : ofL d c.co = true) (hsv : StrV c.vals) :
  Calls Tryz.prog 27 #[v, u, .agg #[v1, v2]] w (RetV' (.int .i64 (if fitsL a c.vals = false then 12 else 0)) w) := by
 have C : Hid (∀ w1, Below w.heap.size w w1 → Calls Tryz.prog 69 #[v, v1] w1 (RetV' (.bool (ofB d c.co)) w1)) := fun w1 hb => rof_any d c.co v v1 w1 (hd.later DimR.lasts hb) (h1.later IntR.lasts hb)
 rw [show ofB d c.co = true from by unfold ofB; rw [ho, decide_eq_true h]; rfl] at C
 have HA := Lib.hid ha
 have HV := Lib.hid h2
 have HL := Lib.hid h'
 have HSV := Lib.hid hsv
 obtain ⟨R, hR⟩ : ∃ R, R = fitsL a c.vals := ⟨_, rfl⟩
 rw [← hR]
 have HR0 := Lib.hid hR
 obtain ⟨RV, hRV⟩ : ∃ RV : Int, RV = if R = false then 12 else 0 := ⟨_, rfl⟩
 rw [← hRV]
 have HRV := Lib.hid hRV
 obtain ⟨p, cap, rfl, c1, c2⟩ := hd.shape
 obtain ⟨p', cap', rfl, c1', c2'⟩ := ha.shape
 obtain ⟨q, capq, rfl, e1, e2⟩ := h1.shape
 obtain ⟨q', capq', rfl, e1', e2'⟩ := h2.shape
 simp only [h, h'] at C HV e1 e1' ⊢
 obtain ⟨W1, hW1⟩ : ∃ W1, W1 = w.alloc (.cells #[.slice q d.length capq, .slice q' a.length capq'] 38) := ⟨_, rfl⟩
 have HB1 : Hid (Below w.heap.size w W1) := by show Below _ _ _; rw [hW1]; exact below_alloc _ _
 have HC1 : Hid (W1.cell? ⟨w.heap.size, 1, none⟩ = some (.slice q' a.length capq')) := by show _ = _; rw [hW1, World.cell?_alloc_at _ _ _ _ rfl]; rfl
 clear hd ha h1 h2 h h' ho hsv hR hRV
 go_enter Tryz.func27, Tryz.ntmps27
 go_wp2_with fail
 refine (C.out _ (below_alloc _ _)).mono ?_
 rintro e w2 ⟨rfl, hb⟩
 rw [← hW1] at hb
 have HB2 := Lib.hid hb
 clear hb C hW1
 go_wp2
 go_loopw [7] (fun iv wr => ∃ i : Nat, i ≤ a.length ∧ iv = .int .i64 (i : Nat) ∧ Hid (fitsL (a.drop i) (c.vals.drop i) = R) ∧ Below W1.heap.size W1 wr) (fun iv _ => a.length - (intOf iv).toNat)
 case atStart => exact ⟨0, Nat.zero_le _, rfl, HR0.out.symm, HB2.out⟩
 case round =>
  obtain ⟨i, hi, rfl, HN, hb⟩ := hrel
  have HBX := Lib.hid hb
  have HBW := Lib.hid (below_keep HB1.out hb)
  clear hb
  by_cases hlt : i < a.length
  ·obtain ⟨g, o, x, ea, hx, hr⟩ := (HA.out.later AttrR.lasts HBW.out).at i hlt
   obtain ⟨g', o', y, ea', hy, hr'⟩ := (HV.out.later ValR.lasts HBW.out).at i (by rw [HL.out]; exact hlt)
   subst ea ea'
   have hn := HN.out
   rw [fitsL_drop hx hy] at hn
   have HNN := Lib.hid hn
   have CF := Lib.hid (fun w1 => rfits_any y x.ty w1 (HSV.out y (List.mem_of_getElem? hy)))
   have HI1 : Hid (i + 1 ≤ a.length) := hlt
   have HI2 : Hid (a.length - (i + 1) < a.length - i) := by show _ < _; omega
   have ib0 : (0 : Int) ≤ (i : Int) := by omega
   have ib1 : (i : Int) < (a.length : Int) := by omega
   have hb1 := cell_later HC1.out HBX.out
   have hx1 := hr.ty
   obtain ⟨y0, y1, y2, y3⟩ := hr'
   obtain ⟨nx, ty⟩ := x
   obtain ⟨kd, nu, de, st⟩ := y
   obtain ⟨F, hF⟩ : ∃ F, F = fitsV ⟨kd, nu, de, st⟩ ty := ⟨_, rfl⟩
   simp only at hx1 y0 y1 y2 y3 CF HNN
   rw [← hF] at CF HNN
   have K : Hid (∀ w', Below wr.heap.size wr w' → w'.cell? ⟨w.heap.size, 1, none⟩ = some (.slice (some ⟨g', o', none⟩) a.length capq') ∧ w'.cell? ⟨g, o + i * 2 + 1, none⟩ = some (.int .i64 ty) ∧ w'.cell? ⟨g', o' + i * 4, none⟩ = some (.int .i64 kd) ∧ w'.cell? ⟨g', o' + i * 4 + 1, none⟩ = some (.int .i64 nu) ∧ w'.cell? ⟨g', o' + i * 4 + 2, none⟩ = some (.int .i64 de) ∧ w'.cell? ⟨g', o' + i * 4 + 3, none⟩ = some (.string ⟨st.toArray⟩) ∧ Below wr.heap.size wr w') :=
    fun w' h => ⟨cell_later hb1 h, cell_later hx1 h, cell_later y0 h, cell_later y1 h, cell_later y2 h, cell_later y3 h, h⟩
   clear hr hx hy hn HN hF hb1 hx1 y0 y1 y2 y3
   go_wp2_with fail
   go_region_held3 (fun w' => w'.cell? ⟨w.heap.size, 1, none⟩ = some (.slice (some ⟨g', o', none⟩) a.length capq') ∧ w'.cell? ⟨g, o + i * 2 + 1, none⟩ = some (.int .i64 ty) ∧ w'.cell? ⟨g', o' + i * 4, none⟩ = some (.int .i64 kd) ∧ w'.cell? ⟨g', o' + i * 4 + 1, none⟩ = some (.int .i64 nu) ∧ w'.cell? ⟨g', o' + i * 4 + 2, none⟩ = some (.int .i64 de) ∧ w'.cell? ⟨g', o' + i * 4 + 3, none⟩ = some (.string ⟨st.toArray⟩) ∧ Below wr.heap.size wr w')
    (first | exact K.out _ (Below.refl _ _).drew | exact K.out _ (by assumption))
    ((go_at_call 70; refine (CF.out _).mono ?_; rintro e w3 ⟨rfl, hb2⟩; have hb3 : Below wr.heap.size wr w3 := below_keep (Below.refl _ _).drew hb2))
   have HB3 := Lib.hid (HBX.out.trans (hb3.mono HBX.out.size))
   clear hb2 hb3 CF
   cases F with
   | false =>
    have HE : Hid (R = false) := by have := HNN.out; rw [if_pos rfl] at this; exact this.symm
    go_wp2
    go_ret
    rw [HRV.out, HE.out, if_pos rfl]
    exact ⟨rfl, below_keep HB1.out HB3.out⟩
   | true =>
    have HE : Hid (fitsL (a.drop (i + 1)) (c.vals.drop (i + 1)) = R) := by have := HNN.out; rw [if_neg (by decide)] at this; exact this
    go_wp2
    exact ⟨⟨i + 1, HI1.out, by go_num, HE.out, HB3.out⟩, HI2.out⟩
  ·obtain rfl : i = a.length := by omega
   have hn := HN.out
   rw [List.drop_length, fitsL] at hn
   ·have HNN := Lib.hid hn
    clear hn HN
    go_wp2
    go_ret
    rw [HRV.out, ← HNN.out, if_neg (by decide)]
    exact ⟨rfl, HBW.out⟩
   ·intro _ _ _ _ h; cases h
theorem rcell_any (d : List DimT) (a : List AttrT) (c : CellT) (v u v1 v2 : Value) (w : World) (hd : Dims w v d) (ha : Attrs w u a) (h1 : Ints w v1 c.co) (h2 : Vals w v2 c.vals) (hsv : StrV c.vals) :
  Calls Tryz.prog 27 #[v, u, .agg #[v1, v2]] w (RetV' (.int .i64 (cellE d a c)) w) := by
 unfold cellE
 by_cases h : c.co.length ≠ d.length ∨ c.vals.length ≠ a.length
 ·rw [if_pos h]
  exact rcell_shape d a c v u v1 v2 w hd ha h1 h2 h
 ·rw [if_neg h]
  have e1 : c.co.length = d.length := by
   by_cases e : c.co.length = d.length
   ·exact e
   ·exact absurd (.inl e) h
  have e2 : c.vals.length = a.length := by
   by_cases e : c.vals.length = a.length
   ·exact e
   ·exact absurd (.inr e) h
  cases ho : ofL d c.co with
  | false =>
   rw [if_pos rfl]
   exact rcell_range d a c v u v1 v2 w hd ha h1 h2 e1 e2 ho
  | true =>
   rw [if_neg (by simp)]
   exact rcell_core d a c v u v1 v2 w hd ha h1 h2 e1 e2 ho hsv
end Go.Proofs.YthlkcppbljpooaaGreatDoor
/- The reference of layer 2, contract: Check. -/
namespace Go.Proofs.YthlkcppbljpooaaGreatDoor
open Go.RowKit

def StrC (l : List CellT) : Prop := ∀ c ∈ l, StrV c.vals
end Go.Proofs.YthlkcppbljpooaaGreatDoor
