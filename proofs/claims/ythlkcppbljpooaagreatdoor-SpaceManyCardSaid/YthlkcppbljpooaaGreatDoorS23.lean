/- Lemmas and contracts, each under its own condition: Where a cell lies among others: the reference's place, slices.BinarySearchFunc of space.Get: contracts. space.Get and the reference's: contracts. Copies: slices.Clone of dimensions, attributes, values, integers. -/
import Derived.IntWalk
import Derived.BigQuiet
import Derived.Lib.SliceRun
import Derived.Lib.AppendZeros
import Derived.Test.YthlkcppbljpooaaGreatDoorS17
import Derived.Test.YthlkcppbljpooaaGreatDoorS19
import Derived.Test.YthlkcppbljpooaaGreatDoorS5
import Derived.Test.YthlkcppbljpooaaGreatDoorS57
import Derived.Test.YthlkcppbljpooaaGreatDoorS58
/- Where a cell lies among others: the reference's place, slices.BinarySearchFunc of space.Get: contracts. -/
namespace Go.Proofs.YthlkcppbljpooaaGreatDoor
open Go.RowKit

end Go.Proofs.YthlkcppbljpooaaGreatDoor
/- space.Get and the reference's: contracts. -/
namespace Go.Proofs.YthlkcppbljpooaaGreatDoor
open Go.RowKit

def vcells (x : Va) : List Value := [.int .i64 x.kind, .int .i64 x.num, .int .i64 x.den, .string ⟨x.str.toArray⟩]
theorem cellw_val : Cellw 4 vcells ValR where
 pos := by decide
 len _ := rfl
 one x u hu := by
  simp only [vcells, List.mem_cons, List.not_mem_nil, or_false] at hu
  rcases hu with rfl | rfl | rfl | rfl <;> rfl
 rd w g o x h t u hu := by
  match t, hu with
  | 0, hu => cases hu; exact h.kind
  | 1, hu => cases hu; exact h.num
  | 2, hu => cases hu; exact h.den
  | 3, hu => cases hu; exact h.str
  | n + 4, hu => simp [vcells] at hu
 mkR w g o x h := ⟨h 0 _ rfl, h 1 _ rfl, h 2 _ rfl, h 3 _ rfl⟩
theorem infoVal : (Tryz.prog.info? 40).map (fun i => (i.zero, i.size, i.bytes)) = some (some (.agg #[.int .i64 0, .int .i64 0, .int .i64 0, .string ⟨#[]⟩]), 4, 40) := by kernel_rfl
theorem copy_vals (ty : TypeId) (w : World) (v : Value) (l : List Va) (h : Vals w v l) (hl : 0 < l.length) (hl9 : l.length ≤ 1000000) :
  ∃ g cap w', (Builtin.append_ #[36, 36] ty #[.slice (some ⟨w.heap.size, 0, none⟩) 0 0, v]).run Tryz.prog (w.alloc (.cells #[] 40)) = .ok (.slice (some ⟨g, 0, none⟩) l.length cap) w' ∧ Vals w' (.slice (some ⟨g, 0, none⟩) l.length cap) l ∧ NewV w.heap.size w' (.slice (some ⟨g, 0, none⟩) l.length cap) 40 ∧ Below w.heap.size w w' :=
 run_copy cellw_val ValR.lasts Tryz.underlying36 infoVal rfl ty w v l h hl (by omega) hl9
end Go.Proofs.YthlkcppbljpooaaGreatDoor
/- Copies: slices.Clone of dimensions, attributes, values, integers. -/
namespace Go.Proofs.YthlkcppbljpooaaGreatDoor
open Go.RowKit

def RetCpL (n : Nat) {α : Type} (k : Nat) (Rd : World → Nat → Nat → α → Prop) (T : TypeId) (l : List α) (w : World) (e : Ending) (w' : World) : Prop := ∃ v, e = .returned v ∧ Ls k Rd w' v l ∧ NewV n w' v T ∧ Below w.heap.size w w'
abbrev RetCpT {α : Type} (k : Nat) (Rd : World → Nat → Nat → α → Prop) (T : TypeId) (l : List α) (w : World) (e : Ending) (w' : World) : Prop := RetCpL w.heap.size k Rd T l w e w'
theorem RetCpL.low {n m : Nat} {α : Type} {k : Nat} {Rd : World → Nat → Nat → α → Prop} {T : TypeId} {l : List α} {w : World} {e : Ending} {w' : World} (h : RetCpL n k Rd T l w e w') (hm : m ≤ n) : RetCpL m k Rd T l w e w' := by
 obtain ⟨v, h1, h2, h3, h4⟩ := h
 exact ⟨v, h1, h2, h3.base hm, h4⟩
def cellsDim (x : DimT) : List Value := [.string ⟨x.name.toArray⟩, .int .i64 x.lo, .int .i64 x.hi]
theorem cellw_Dim : Cellw 3 cellsDim DimR where
 pos := by decide
 len _ := rfl
 one x u hu := by
  simp only [cellsDim, List.mem_cons, List.not_mem_nil, or_false] at hu
  rcases hu with rfl | rfl | rfl <;> rfl
 rd w g o x h t u hu := by
  match t, hu with
  | 0, hu => cases hu; exact h.name
  | 1, hu => cases hu; exact h.lo
  | 2, hu => cases hu; exact h.hi
  | n + 3, hu => simp [cellsDim] at hu
 mkR w g o x h := ⟨h 0 _ rfl, h 1 _ rfl, h 2 _ rfl⟩
theorem infoDimC : (Tryz.prog.info? 43).map (fun i => (i.zero, i.size, i.bytes)) = some (some (.agg #[.string ⟨#[]⟩, .int .i64 0, .int .i64 0]), 3, 32) := by kernel_rfl
theorem copy_Dim (ty : TypeId) (w : World) (v : Value) (l : List DimT) (h : Dims w v l) (hl : 0 < l.length) (hl9 : l.length ≤ 1000000) :
  ∃ g cap w', (Builtin.append_ #[22, 22] ty #[.slice (some ⟨w.heap.size, 0, none⟩) 0 0, v]).run Tryz.prog (w.alloc (.cells #[] 43)) = .ok (.slice (some ⟨g, 0, none⟩) l.length cap) w' ∧ Dims w' (.slice (some ⟨g, 0, none⟩) l.length cap) l ∧ NewV w.heap.size w' (.slice (some ⟨g, 0, none⟩) l.length cap) 43 ∧ Below w.heap.size w w' :=
 run_copy cellw_Dim DimR.lasts Tryz.underlying22 infoDimC rfl ty w v l h hl (by omega) hl9
set_option maxRecDepth 100000 in
theorem cloneDim_any (l : List DimT) (v : Value) (w : World) (h : Dims w v l) (hl9 : l.length ≤ 1000000) :
  Calls Tryz.prog 74 #[v] w (RetCpT 3 DimR 43 l w) := by
 obtain ⟨a, cap, rfl, k1, k2⟩ := h.shape
 have q22 : ∀ (w : World) (a : Option Addr) (n c n' c' : Nat), (binOp .eql 22 (.slice a n c) (.slice none n' c')).run Tryz.prog w = .ok (.bool a.isNone) w := fun w a n c n' c' => Lib.run_eql_slice_nil w _ 43 a n c n' c' Tryz.underlying22
 cases a with
 | none =>
  have hl0 : l = [] := by
   rcases Nat.eq_zero_or_pos l.length with h0 | h0
   ·exact List.length_eq_zero_iff.1 h0
   ·obtain ⟨g, o, x, e, -⟩ := h.at 0 h0
    cases e
  subst hl0
  clear h hl9 k1
  go_enter Tryz.func74, Tryz.ntmps74
  go_wp2
  go_ret
  exact ⟨_, rfl, Ls.nil _ _ _ (by omega), NewV.nil _ _ _ _ _, Below.refl _ _⟩
 | some ad =>
  by_cases h0 : l.length = 0
  ·obtain rfl : l = [] := List.length_eq_zero_iff.1 h0
   have HT := Lib.hid (new_made w 43)
   clear h hl9 k1 h0
   go_enter Tryz.func74, Tryz.ntmps74
   go_wp2
   go_ret
   exact ⟨_, rfl, Ls.nil _ _ _ (by omega), HT.out, below_alloc _ _⟩
  ·obtain ⟨g, cp, w', hrun, hv, ht, hb⟩ := copy_Dim 22 w _ l h (by omega) hl9
   have HV := Lib.hid hv
   have HB := Lib.hid hb
   have HT := Lib.hid ht
   have HRUN := Lib.hid hrun
   clear h hl9 hv hb hrun ht
   go_enter Tryz.func74, Tryz.ntmps74
   go_wp2_with (at_builtin; refine Lib.wpList_append_run _ rfl _ _ _ _ rfl _ _ rfl rfl _ _ HRUN.out ?_)
   go_wp2
   go_ret
   exact ⟨_, rfl, HV.out, HT.out, HB.out⟩
def cellsAttr (x : AttrT) : List Value := [.string ⟨x.name.toArray⟩, .int .i64 x.ty]
theorem cellw_Attr : Cellw 2 cellsAttr AttrR where
 pos := by decide
 len _ := rfl
 one x u hu := by
  simp only [cellsAttr, List.mem_cons, List.not_mem_nil, or_false] at hu
  rcases hu with rfl | rfl <;> rfl
 rd w g o x h t u hu := by
  match t, hu with
  | 0, hu => cases hu; exact h.name
  | 1, hu => cases hu; exact h.ty
  | n + 2, hu => simp [cellsAttr] at hu
 mkR w g o x h := ⟨h 0 _ rfl, h 1 _ rfl⟩
theorem infoAttrC : (Tryz.prog.info? 45).map (fun i => (i.zero, i.size, i.bytes)) = some (some (.agg #[.string ⟨#[]⟩, .int .i64 0]), 2, 24) := by kernel_rfl
theorem copy_Attr (ty : TypeId) (w : World) (v : Value) (l : List AttrT) (h : Attrs w v l) (hl : 0 < l.length) (hl9 : l.length ≤ 1000000) :
  ∃ g cap w', (Builtin.append_ #[23, 23] ty #[.slice (some ⟨w.heap.size, 0, none⟩) 0 0, v]).run Tryz.prog (w.alloc (.cells #[] 45)) = .ok (.slice (some ⟨g, 0, none⟩) l.length cap) w' ∧ Attrs w' (.slice (some ⟨g, 0, none⟩) l.length cap) l ∧ NewV w.heap.size w' (.slice (some ⟨g, 0, none⟩) l.length cap) 45 ∧ Below w.heap.size w w' :=
 run_copy cellw_Attr AttrR.lasts Tryz.underlying23 infoAttrC rfl ty w v l h hl (by omega) hl9
set_option maxRecDepth 100000 in
theorem cloneAttr_any (l : List AttrT) (v : Value) (w : World) (h : Attrs w v l) (hl9 : l.length ≤ 1000000) :
  Calls Tryz.prog 75 #[v] w (RetCpT 2 AttrR 45 l w) := by
 obtain ⟨a, cap, rfl, k1, k2⟩ := h.shape
 have q22 : ∀ (w : World) (a : Option Addr) (n c n' c' : Nat), (binOp .eql 23 (.slice a n c) (.slice none n' c')).run Tryz.prog w = .ok (.bool a.isNone) w := fun w a n c n' c' => Lib.run_eql_slice_nil w _ 45 a n c n' c' Tryz.underlying23
 cases a with
 | none =>
  have hl0 : l = [] := by
   rcases Nat.eq_zero_or_pos l.length with h0 | h0
   ·exact List.length_eq_zero_iff.1 h0
   ·obtain ⟨g, o, x, e, -⟩ := h.at 0 h0
    cases e
  subst hl0
  clear h hl9 k1
  go_enter Tryz.func75, Tryz.ntmps75
  go_wp2
  go_ret
  exact ⟨_, rfl, Ls.nil _ _ _ (by omega), NewV.nil _ _ _ _ _, Below.refl _ _⟩
 | some ad =>
  by_cases h0 : l.length = 0
  ·obtain rfl : l = [] := List.length_eq_zero_iff.1 h0
   have HT := Lib.hid (new_made w 45)
   clear h hl9 k1 h0
   go_enter Tryz.func75, Tryz.ntmps75
   go_wp2
   go_ret
   exact ⟨_, rfl, Ls.nil _ _ _ (by omega), HT.out, below_alloc _ _⟩
  ·obtain ⟨g, cp, w', hrun, hv, ht, hb⟩ := copy_Attr 23 w _ l h (by omega) hl9
   have HV := Lib.hid hv
   have HB := Lib.hid hb
   have HT := Lib.hid ht
   have HRUN := Lib.hid hrun
   clear h hl9 hv hb hrun ht
   go_enter Tryz.func75, Tryz.ntmps75
   go_wp2_with (at_builtin; refine Lib.wpList_append_run _ rfl _ _ _ _ rfl _ _ rfl rfl _ _ HRUN.out ?_)
   go_wp2
   go_ret
   exact ⟨_, rfl, HV.out, HT.out, HB.out⟩
def cellsInt (x : Int) : List Value := [.int .i64 x]
theorem cellw_Int : Cellw 1 cellsInt IntR where
 pos := by decide
 len _ := rfl
 one x u hu := by
  simp only [cellsInt, List.mem_cons, List.not_mem_nil, or_false] at hu
  rw [hu]; rfl
 rd w g o x h t u hu := by
  match t, hu with
  | 0, hu => cases hu; exact h
  | n + 1, hu => simp [cellsInt] at hu
 mkR w g o x h := h 0 _ rfl
theorem infoIntC : (Tryz.prog.info? 3).map (fun i => (i.zero, i.size, i.bytes)) = some (some (.int .i64 0), 1, 8) := by kernel_rfl
theorem copy_Int (ty : TypeId) (w : World) (v : Value) (l : List Int) (h : Ints w v l) (hl : 0 < l.length) (hl9 : l.length ≤ 1000000) :
  ∃ g cap w', (Builtin.append_ #[35, 35] ty #[.slice (some ⟨w.heap.size, 0, none⟩) 0 0, v]).run Tryz.prog (w.alloc (.cells #[] 3)) = .ok (.slice (some ⟨g, 0, none⟩) l.length cap) w' ∧ Ints w' (.slice (some ⟨g, 0, none⟩) l.length cap) l ∧ NewV w.heap.size w' (.slice (some ⟨g, 0, none⟩) l.length cap) 3 ∧ Below w.heap.size w w' :=
 run_copy cellw_Int IntR.lasts Tryz.underlying35 infoIntC rfl ty w v l h hl (by omega) hl9
set_option maxRecDepth 100000 in
theorem cloneInt_any (l : List Int) (v : Value) (w : World) (h : Ints w v l) (hl9 : l.length ≤ 1000000) :
  Calls Tryz.prog 83 #[v] w (RetCpT 1 IntR 3 l w) := by
 obtain ⟨a, cap, rfl, k1, k2⟩ := h.shape
 have q22 : ∀ (w : World) (a : Option Addr) (n c n' c' : Nat), (binOp .eql 35 (.slice a n c) (.slice none n' c')).run Tryz.prog w = .ok (.bool a.isNone) w := fun w a n c n' c' => Lib.run_eql_slice_nil w _ 3 a n c n' c' Tryz.underlying35
 cases a with
 | none =>
  have hl0 : l = [] := by
   rcases Nat.eq_zero_or_pos l.length with h0 | h0
   ·exact List.length_eq_zero_iff.1 h0
   ·obtain ⟨g, o, x, e, -⟩ := h.at 0 h0
    cases e
  subst hl0
  clear h hl9 k1
  go_enter Tryz.func83, Tryz.ntmps83
  go_wp2
  go_ret
  exact ⟨_, rfl, Ls.nil _ _ _ (by omega), NewV.nil _ _ _ _ _, Below.refl _ _⟩
 | some ad =>
  by_cases h0 : l.length = 0
  ·obtain rfl : l = [] := List.length_eq_zero_iff.1 h0
   have HT := Lib.hid (new_made w 3)
   clear h hl9 k1 h0
   go_enter Tryz.func83, Tryz.ntmps83
   go_wp2
   go_ret
   exact ⟨_, rfl, Ls.nil _ _ _ (by omega), HT.out, below_alloc _ _⟩
  ·obtain ⟨g, cp, w', hrun, hv, ht, hb⟩ := copy_Int 35 w _ l h (by omega) hl9
   have HV := Lib.hid hv
   have HB := Lib.hid hb
   have HT := Lib.hid ht
   have HRUN := Lib.hid hrun
   clear h hl9 hv hb hrun ht
   go_enter Tryz.func83, Tryz.ntmps83
   go_wp2_with (at_builtin; refine Lib.wpList_append_run _ rfl _ _ _ _ rfl _ _ rfl rfl _ _ HRUN.out ?_)
   go_wp2
   go_ret
   exact ⟨_, rfl, HV.out, HT.out, HB.out⟩
set_option maxRecDepth 100000 in
theorem cloneVal_any (l : List Va) (v : Value) (w : World) (h : Vals w v l) (hl9 : l.length ≤ 1000000) :
  Calls Tryz.prog 105 #[v] w (RetCpT 4 ValR 40 l w) := by
 obtain ⟨a, cap, rfl, k1, k2⟩ := h.shape
 have q22 : ∀ (w : World) (a : Option Addr) (n c n' c' : Nat), (binOp .eql 36 (.slice a n c) (.slice none n' c')).run Tryz.prog w = .ok (.bool a.isNone) w := fun w a n c n' c' => Lib.run_eql_slice_nil w _ 40 a n c n' c' Tryz.underlying36
 cases a with
 | none =>
  have hl0 : l = [] := by
   rcases Nat.eq_zero_or_pos l.length with h0 | h0
   ·exact List.length_eq_zero_iff.1 h0
   ·obtain ⟨g, o, x, e, -⟩ := h.at 0 h0
    cases e
  subst hl0
  clear h hl9 k1
  go_enter Tryz.func105, Tryz.ntmps105
  go_wp2
  go_ret
  exact ⟨_, rfl, Ls.nil _ _ _ (by omega), NewV.nil _ _ _ _ _, Below.refl _ _⟩
 | some ad =>
  by_cases h0 : l.length = 0
  ·obtain rfl : l = [] := List.length_eq_zero_iff.1 h0
   have HT := Lib.hid (new_made w 40)
   clear h hl9 k1 h0
   go_enter Tryz.func105, Tryz.ntmps105
   go_wp2
   go_ret
   exact ⟨_, rfl, Ls.nil _ _ _ (by omega), HT.out, below_alloc _ _⟩
  ·obtain ⟨g, cp, w', hrun, hv, ht, hb⟩ := copy_vals 36 w _ l h (by omega) hl9
   have HV := Lib.hid hv
   have HB := Lib.hid hb
   have HT := Lib.hid ht
   have HRUN := Lib.hid hrun
   clear h hl9 hv hb hrun ht
   go_enter Tryz.func105, Tryz.ntmps105
   go_wp2_with (at_builtin; refine Lib.wpList_append_run _ rfl _ _ _ _ rfl _ _ rfl rfl _ _ HRUN.out ?_)
   go_wp2
   go_ret
   exact ⟨_, rfl, HV.out, HT.out, HB.out⟩
end Go.Proofs.YthlkcppbljpooaaGreatDoor
