/- Contracts: numbers that are nil, or were not made. -/
import Derived.Test.YtemhidlaaommaaaGreatDoorR2
import Derived.Test.YtemhidlaaommaaaGreatDoorW1
namespace Go.Proofs.YtemhidlaaommaaaGreatDoor
open Go.RowKit

/-- nil, or a number that the package did not make -/
def IsB (w : World) (v : Value) : Prop :=
  v = .pointer none ∨ ∃ g, v = .pointer (some ⟨g, 0, none⟩) ∧ w.cell? ⟨g, 0, none⟩ = some (.bool false) ∧ w.cell? ⟨g, 1, none⟩ = some (.slice none 0 0) ∧ w.cell? ⟨g, 2, none⟩ = some (.slice none 0 0)
theorem IsB.later {w w' : World} {v : Value} (h : IsB w v) (hb : Below w.heap.size w w') : IsB w' v := by
  rcases h with h | ⟨g, e, h0, h1, h2⟩
  · exact .inl h
  · have hg : g < w.heap.size := World.block_lt_of_cell? w ⟨g, 0, none⟩ h0
    exact .inr ⟨g, e, (hb.cell (p := ⟨g, 0, none⟩) hg).trans h0, (hb.cell (p := ⟨g, 1, none⟩) hg).trans h1, (hb.cell (p := ⟨g, 2, none⟩) hg).trans h2⟩
theorem IsB.ptr {w : World} {v : Value} (h : IsB w v) : ∃ a, v = .pointer a := by
  rcases h with h | ⟨g, e, -⟩
  · exact ⟨_, h⟩
  · exact ⟨_, e⟩
theorem valid_bad {v : Value} {w : World} (h : IsB w v) :
    Calls Tryz.prog 83 #[v] w fun e w' => e = .returned (.bool false) ∧ w = w' := by
  rcases h with rfl | ⟨g, rfl, h0, h1, h2⟩
  · go_enter Tryz.func83, Tryz.ntmps83
    go_wp2
    (first | go_ret | go_ret2)
    exact ⟨rfl, rfl⟩
  · go_enter Tryz.func83, Tryz.ntmps83
    go_wp2
    (first | go_ret | go_ret2)
    exact ⟨rfl, rfl⟩

theorem bits_bad {v : Value} {w : World} (h : IsB w v) :
    Calls Tryz.prog 55 #[v] w (RetV (.tuple #[.int .i64 0, .int .i64 0]) w) := by
  have V := Lib.hid (valid_bad h)
  obtain ⟨a, rfl⟩ := h.ptr
  clear h
  go_enter Tryz.func55, Tryz.ntmps55
  go_wp2_with fail
  refine V.out.mono ?_
  rintro e w' ⟨rfl, rfl⟩
  go_wp2
  (first | go_ret | go_ret2)
  exact ⟨rfl, Below.refl _ _⟩

theorem text_bad {v : Value} {w : World} (h : IsB w v) :
    Calls Tryz.prog 43 #[v] w (RetV (.string ⟨#[]⟩) w) := by
  have V := Lib.hid (valid_bad h)
  obtain ⟨a, rfl⟩ := h.ptr
  clear h
  go_enter Tryz.func43, Tryz.ntmps43
  go_wp2_with fail
  refine V.out.mono ?_
  rintro e w' ⟨rfl, rfl⟩
  go_wp2
  (first | go_ret | go_ret2)
  exact ⟨rfl, Below.refl _ _⟩

theorem sign_bad {v : Value} {w : World} (h : IsB w v) :
    Calls Tryz.prog 42 #[v] w (RetV (.int .i64 0) w) := by
  have V := Lib.hid (valid_bad h)
  obtain ⟨a, rfl⟩ := h.ptr
  clear h
  go_enter Tryz.func42, Tryz.ntmps42
  go_wp2_with fail
  refine V.out.mono ?_
  rintro e w' ⟨rfl, rfl⟩
  go_wp2
  (first | go_ret | go_ret2)
  exact ⟨rfl, Below.refl _ _⟩

theorem floor_bad {v : Value} {w : World} (h : IsB w v) :
    Calls Tryz.prog 44 #[v] w (RetV (.pointer none) w) := by
  have V := Lib.hid (valid_bad h)
  obtain ⟨a, rfl⟩ := h.ptr
  clear h
  go_enter Tryz.func44, Tryz.ntmps44
  go_wp2_with fail
  refine V.out.mono ?_
  rintro e w' ⟨rfl, rfl⟩
  go_wp2
  (first | go_ret | go_ret2)
  exact ⟨rfl, Below.refl _ _⟩

theorem whole_bad {v : Value} {w : World} (h : IsB w v) :
    Calls Tryz.prog 45 #[v] w (RetV (.bool false) w) := by
  have V := Lib.hid (valid_bad h)
  obtain ⟨a, rfl⟩ := h.ptr
  clear h
  go_enter Tryz.func45, Tryz.ntmps45
  go_wp2_with fail
  refine V.out.mono ?_
  rintro e w' ⟨rfl, rfl⟩
  go_wp2
  (first | go_ret | go_ret2)
  exact ⟨rfl, Below.refl _ _⟩

theorem added_bad_l {x y : Value} {w : World} {p : Option Addr} (hx : IsB w x) (hy : y = .pointer p) (m : Bool) :
    Calls Tryz.prog 86 #[x, y, .bool m] w (RetV (.pointer none) w) := by
  have V := Lib.hid (valid_bad hx)
  obtain ⟨a, rfl⟩ := hx.ptr
  subst hy
  clear hx
  go_enter Tryz.func86, Tryz.ntmps86
  go_wp2_with fail
  refine V.out.mono ?_
  rintro e w' ⟨rfl, rfl⟩
  go_wp2
  (first | go_ret | go_ret2)
  exact ⟨rfl, Below.refl _ _⟩
theorem added_bad_r {x y : Value} {w : World} {q : Rat} (hx : IsR w x q) (hy : IsB w y) (m : Bool) :
    Calls Tryz.prog 86 #[x, y, .bool m] w (RetV (.pointer none) w) := by
  have V := Lib.hid (valid_bad hy)
  have U := Lib.hid (valid_any hx)
  obtain ⟨a, rfl⟩ := hy.ptr
  obtain ⟨g, vn, vd, rfl, -⟩ := hx
  clear hy
  go_enter Tryz.func86, Tryz.ntmps86
  go_wp2_with fail
  refine U.out.mono ?_
  rintro e w' ⟨rfl, rfl⟩
  go_wp2_with fail
  refine V.out.mono ?_
  rintro e w' ⟨rfl, rfl⟩
  go_wp2
  (first | go_ret | go_ret2)
  exact ⟨rfl, Below.refl _ _⟩

theorem mul_bad_l {x y : Value} {w : World} {p : Option Addr} (hx : IsB w x) (hy : y = .pointer p) :
    Calls Tryz.prog 30 #[x, y] w (RetV (.pointer none) w) := by
  have V := Lib.hid (valid_bad hx)
  obtain ⟨a, rfl⟩ := hx.ptr
  subst hy
  clear hx
  go_enter Tryz.func30, Tryz.ntmps30
  go_wp2_with fail
  refine V.out.mono ?_
  rintro e w' ⟨rfl, rfl⟩
  go_wp2
  (first | go_ret | go_ret2)
  exact ⟨rfl, Below.refl _ _⟩
theorem mul_bad_r {x y : Value} {w : World} {q : Rat} (hx : IsR w x q) (hy : IsB w y) :
    Calls Tryz.prog 30 #[x, y] w (RetV (.pointer none) w) := by
  have V := Lib.hid (valid_bad hy)
  have U := Lib.hid (valid_any hx)
  obtain ⟨a, rfl⟩ := hy.ptr
  obtain ⟨g, vn, vd, rfl, -⟩ := hx
  clear hy
  go_enter Tryz.func30, Tryz.ntmps30
  go_wp2_with fail
  refine U.out.mono ?_
  rintro e w' ⟨rfl, rfl⟩
  go_wp2_with fail
  refine V.out.mono ?_
  rintro e w' ⟨rfl, rfl⟩
  go_wp2
  (first | go_ret | go_ret2)
  exact ⟨rfl, Below.refl _ _⟩

theorem quo_bad_l {x y : Value} {w : World} {p : Option Addr} (hx : IsB w x) (hy : y = .pointer p) :
    Calls Tryz.prog 24 #[x, y] w (RetV (.tuple #[.pointer none, .int .i64 1]) w) := by
  have V := Lib.hid (valid_bad hx)
  obtain ⟨a, rfl⟩ := hx.ptr
  subst hy
  clear hx
  go_enter Tryz.func24, Tryz.ntmps24
  go_wp2_with fail
  refine V.out.mono ?_
  rintro e w' ⟨rfl, rfl⟩
  go_wp2
  (first | go_ret | go_ret2)
  exact ⟨rfl, Below.refl _ _⟩
theorem quo_bad_r {x y : Value} {w : World} {q : Rat} (hx : IsR w x q) (hy : IsB w y) :
    Calls Tryz.prog 24 #[x, y] w (RetV (.tuple #[.pointer none, .int .i64 1]) w) := by
  have V := Lib.hid (valid_bad hy)
  have U := Lib.hid (valid_any hx)
  obtain ⟨a, rfl⟩ := hy.ptr
  obtain ⟨g, vn, vd, rfl, -⟩ := hx
  clear hy
  go_enter Tryz.func24, Tryz.ntmps24
  go_wp2_with fail
  refine U.out.mono ?_
  rintro e w' ⟨rfl, rfl⟩
  go_wp2_with fail
  refine V.out.mono ?_
  rintro e w' ⟨rfl, rfl⟩
  go_wp2
  (first | go_ret | go_ret2)
  exact ⟨rfl, Below.refl _ _⟩

theorem add_bad_l {x y : Value} {w : World} {p : Option Addr} (hx : IsB w x) (hy : y = .pointer p) :
    Calls Tryz.prog 26 #[x, y] w (RetV (.pointer none) w) := by
  have V := Lib.hid (added_bad_l hx hy false)
  obtain ⟨a, rfl⟩ := hx.ptr
  subst hy
  clear hx
  go_enter Tryz.func26, Tryz.ntmps26
  go_wp2_with fail
  refine V.out.mono ?_
  rintro e w' ⟨rfl, hb⟩
  go_wp2
  (first | go_ret | go_ret2)
  exact ⟨rfl, hb⟩
theorem add_bad_r {x y : Value} {w : World} {q : Rat} (hx : IsR w x q) (hy : IsB w y) :
    Calls Tryz.prog 26 #[x, y] w (RetV (.pointer none) w) := by
  have V := Lib.hid (added_bad_r hx hy false)
  obtain ⟨a, rfl⟩ := hy.ptr
  obtain ⟨g, vn, vd, rfl, -⟩ := hx
  clear hy
  go_enter Tryz.func26, Tryz.ntmps26
  go_wp2_with fail
  refine V.out.mono ?_
  rintro e w' ⟨rfl, hb⟩
  go_wp2
  (first | go_ret | go_ret2)
  exact ⟨rfl, hb⟩

theorem sub_bad_l {x y : Value} {w : World} {p : Option Addr} (hx : IsB w x) (hy : y = .pointer p) :
    Calls Tryz.prog 28 #[x, y] w (RetV (.pointer none) w) := by
  have V := Lib.hid (added_bad_l hx hy true)
  obtain ⟨a, rfl⟩ := hx.ptr
  subst hy
  clear hx
  go_enter Tryz.func28, Tryz.ntmps28
  go_wp2_with fail
  refine V.out.mono ?_
  rintro e w' ⟨rfl, hb⟩
  go_wp2
  (first | go_ret | go_ret2)
  exact ⟨rfl, hb⟩
theorem sub_bad_r {x y : Value} {w : World} {q : Rat} (hx : IsR w x q) (hy : IsB w y) :
    Calls Tryz.prog 28 #[x, y] w (RetV (.pointer none) w) := by
  have V := Lib.hid (added_bad_r hx hy true)
  obtain ⟨a, rfl⟩ := hy.ptr
  obtain ⟨g, vn, vd, rfl, -⟩ := hx
  clear hy
  go_enter Tryz.func28, Tryz.ntmps28
  go_wp2_with fail
  refine V.out.mono ?_
  rintro e w' ⟨rfl, hb⟩
  go_wp2
  (first | go_ret | go_ret2)
  exact ⟨rfl, hb⟩

theorem cmp_bad {x y : Value} {w : World} {p : Option Addr} (hx : IsB w x) (hy : y = .pointer p) :
    Calls Tryz.prog 32 #[x, y] w (RetV (.int .i64 0) w) := by
  have V := Lib.hid (sub_bad_l hx hy)
  have S := Lib.hid (fun w1 => sign_bad (w := w1) (v := .pointer none) (.inl rfl))
  obtain ⟨a, rfl⟩ := hx.ptr
  subst hy
  clear hx
  go_enter Tryz.func32, Tryz.ntmps32
  go_wp2_with fail
  refine V.out.mono ?_
  rintro e w1 ⟨rfl, hb⟩
  go_wp2_with fail
  refine (S.out _).mono ?_
  rintro e w2 ⟨rfl, hb2⟩
  go_wp2
  (first | go_ret | go_ret2)
  exact ⟨rfl, below_keep hb hb2⟩

theorem value_bad {v : Value} {w : World} (h : IsB w v) :
    Calls Tryz.prog 56 #[v] w (RetV zeroV.v w) := by
  have V := Lib.hid (fun w1 (hb : Below w.heap.size w w1) => valid_bad (h.later hb))
  have HR := Lib.hid (ResV.made w 45)
  obtain ⟨a, rfl⟩ := h.ptr
  obtain ⟨W, hW⟩ : ∃ W, W = w.alloc (.cells #[.int .i64 0, .int .i64 0, .int .i64 0, .string ⟨#[]⟩] 45) := ⟨_, rfl⟩
  rw [← hW] at HR
  have hB : Below w.heap.size w W := by rw [hW]; exact below_alloc _ _
  have HB := Lib.hid hB
  obtain ⟨⟨r0, r1, r2, r3⟩, f0, f1, f2, f3⟩ := HR.out
  clear h hB
  go_enter Tryz.func56, Tryz.ntmps56
  go_wp2_with fail
  rw [← hW]
  clear hW
  refine (V.out _ HB.out).mono ?_
  rintro e w' ⟨rfl, rfl⟩
  go_wp2
  refine bodyPost_ret (by simp [results, Tryz.results56, go_sem, r0, r1, r2, r3]; try rfl) rfl ?_
  exact ⟨rfl, below_set4 HB.out⟩
end Go.Proofs.YtemhidlaaommaaaGreatDoor
