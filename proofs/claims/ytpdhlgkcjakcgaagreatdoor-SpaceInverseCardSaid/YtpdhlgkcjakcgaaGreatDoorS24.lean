/- Lemmas and contracts, each under its own condition: Volume, Index, At in plain words, and the plain law of SpaceInverse. Volume: both contracts. Index: both contracts. -/
import Derived.IntWalk
import Derived.BigQuiet
import Derived.Deep.RegionHeld3
import Derived.Deep.DeepCutAuto
import Derived.Deep.CutBlock
import Derived.Test.YtpdhlgkcjakcgaaGreatDoorS18
import Derived.Test.YtpdhlgkcjakcgaaGreatDoorS19
import Derived.Test.YtpdhlgkcjakcgaaGreatDoorS9
/- Volume, Index, At in plain words, and the plain law of SpaceInverse. -/
namespace Go.Proofs.YtpdhlgkcjakcgaaGreatDoor

/-- how many coordinates a dimension has -/
def ext (x : DimT) : Int := x.hi - x.lo + 1
def openB (d : List DimT) : Bool := d.any fun x => decide (x.hi = 1073741825)
def volL : Int → List DimT → Option Int
  | n, [] => some n
  | n, x :: r => if 4611686018427387904 / ext x < n then none else volL (n * ext x) r
def volE (d : List DimT) : Int := if dimsE d ≠ 0 then dimsE d else if openB d = true then 3 else if volL 1 d = none then 14 else 0
def volQ (d : List DimT) : Int := if volE d = 0 then (volL 1 d).getD 0 else 0
def idxL : Int → List DimT → List Int → Int
  | n, x :: d, a :: c => idxL (n * ext x + (a - x.lo)) d c
  | n, _, _ => n
def idxE (d : List DimT) (c : List Int) : Int := if volE d ≠ 0 then volE d else if c.length ≠ d.length then 13 else if ofL d c = false then 3 else 0
def idxQ (d : List DimT) (c : List Int) : Int := if idxE d c = 0 then idxL 0 d c else 0
def atL : Int → List DimT → List Int × Int
  | i, [] => ([], i)
  | i, x :: r => ((x.lo + (atL i r).2 % ext x) :: (atL i r).1, (atL i r).2 / ext x)
def atE (d : List DimT) (i : Int) : Int := if volE d ≠ 0 then volE d else if i < 0 ∨ volQ d ≤ i then 3 else 0
def atQ (d : List DimT) (i : Int) : List Int := if atE d i = 0 then (atL i d).1 else []
def prodL : List DimT → Int
  | [] => 1
  | x :: r => ext x * prodL r

/-- a dimension that is not open -/
structure GoodX (x : DimT) : Prop where
  lo : -1073741824 ≤ x.lo
  le : x.lo ≤ x.hi
  hi : x.hi ≤ 1073741824
theorem GoodX.ext {x : DimT} (h : GoodX x) : 1 ≤ ext x ∧ ext x ≤ 2147483649 := by
  have := h.lo
  have := h.le
  have := h.hi
  unfold Proofs.YtpdhlgkcjakcgaaGreatDoor.ext
  omega
theorem openB_at {d : List DimT} {i : Nat} {x : DimT} (h : d[i]? = some x) : openB (d.drop i) = (decide (x.hi = 1073741825) || openB (d.drop (i + 1))) := by
  rw [drop_cons h]; rfl
theorem openB_end {d : List DimT} {i : Nat} {x : DimT} (h : d[i]? = some x) (ho : openB d = false) : x.hi ≠ 1073741825 := by
  intro e
  have h1 : openB d = true := List.any_eq_true.2 ⟨x, List.mem_of_getElem? h, decide_eq_true e⟩
  rw [h1] at ho; cases ho
theorem dims_goodX {d : List DimT} (h : dimsE d = 0) (ho : openB d = false) : ∀ x ∈ d, GoodX x := fun x hx => by
  have g := (dims_good h).2.2 x hx
  obtain ⟨i, hi⟩ := List.getElem?_of_mem hx
  have := openB_end hi ho
  have := g.hi'
  exact ⟨g.lo, g.hi, by omega⟩
theorem volL_at {n : Int} {d : List DimT} {i : Nat} {x : DimT} (h : d[i]? = some x) : volL n (d.drop i) = if 4611686018427387904 / ext x < n then none else volL (n * ext x) (d.drop (i + 1)) := by
  rw [drop_cons h]; rfl
theorem vol_step {n e : Int} (hn : 1 ≤ n) (he : 1 ≤ e) (h : ¬ 4611686018427387904 / e < n) : 1 ≤ n * e ∧ n * e ≤ 4611686018427387904 := by
  have h1 : n ≤ 4611686018427387904 / e := by omega
  have h2 := (Int.le_ediv_iff_mul_le (by omega)).1 h1
  have h3 := Int.mul_le_mul hn he (by omega) (by omega)
  omega
theorem volL_prod : ∀ {n m : Int} {d : List DimT}, volL n d = some m → m = n * prodL d
  | n, m, [], h => by
    rw [volL] at h
    injection h with h
    rw [prodL, Int.mul_one, h]
  | n, m, x :: r, h => by
    rw [volL] at h
    split at h
    · cases h
    · rw [volL_prod h, prodL, Int.mul_assoc]
theorem volE_zero {d : List DimT} (h : volE d = 0) : dimsE d = 0 ∧ openB d = false ∧ ∃ m, volL 1 d = some m ∧ volQ d = m ∧ m = prodL d := by
  have h0 := h
  unfold volE at h
  split at h
  · exact absurd h (by assumption)
  · rename_i h1
    split at h
    · cases h
    · rename_i h2
      split at h
      · cases h
      · rename_i h3
        cases h4 : volL 1 d with
        | none => exact absurd h4 h3
        | some m =>
          refine ⟨by omega, by simpa using h2, m, rfl, by unfold volQ; rw [if_pos h0, h4]; rfl, by have := volL_prod h4; omega⟩
theorem prodL_pos : ∀ {d : List DimT}, (∀ x ∈ d, GoodX x) → 1 ≤ prodL d
  | [], _ => by rw [prodL]; omega
  | x :: r, h => by
    have h1 := (h x (by simp)).ext.1
    have h2 := prodL_pos (d := r) (fun y hy => h y (by simp [hy]))
    rw [prodL]
    have h3 := Int.mul_le_mul h1 h2 (by omega) (by omega)
    omega
theorem volL_le : ∀ {n m : Int} {d : List DimT}, (∀ x ∈ d, GoodX x) → 1 ≤ n → n ≤ 4611686018427387904 → volL n d = some m → 1 ≤ m ∧ m ≤ 4611686018427387904
  | n, m, [], _, h1, h2, h => by
    rw [volL] at h
    injection h with h
    omega
  | n, m, x :: r, hg, h1, h2, h => by
    rw [volL] at h
    split at h
    · cases h
    · rename_i h3
      have h4 := vol_step h1 (hg x (by simp)).ext.1 h3
      exact volL_le (fun y hy => hg y (by simp [hy])) h4.1 h4.2 h
theorem vol_range {d : List DimT} (h : volE d = 0) : 1 ≤ volQ d ∧ volQ d ≤ 4611686018427387904 ∧ volQ d = prodL d ∧ ∀ x ∈ d, GoodX x := by
  obtain ⟨h1, h2, m, h3, h4, h5⟩ := volE_zero h
  have hg := dims_goodX h1 h2
  have := volL_le hg (by omega) (by omega) h3
  exact ⟨by omega, by omega, by omega, hg⟩

theorem idxL_at {n : Int} {d : List DimT} {c : List Int} {i : Nat} {x : DimT} {a : Int} (h : d[i]? = some x) (ha : c[i]? = some a) : idxL n (d.drop i) (c.drop i) = idxL (n * ext x + (a - x.lo)) (d.drop (i + 1)) (c.drop (i + 1)) := by
  rw [drop_cons h, drop_cons ha]; rfl
/-- one step of Index stays within the volume -/
theorem idx_step {n V e k : Int} (h0 : 0 ≤ n) (h1 : n < V) (he : 1 ≤ e) (k0 : 0 ≤ k) (k1 : k < e) (hV : V * e ≤ 4611686018427387904) : 0 ≤ n * e ∧ n * e + k < V * e ∧ 0 ≤ n * e + k ∧ n * e ≤ 4611686018427387904 := by
  have h2 : 0 ≤ n * e := Int.mul_nonneg h0 (by omega)
  have h3 : (n + 1) * e ≤ V * e := Int.mul_le_mul_of_nonneg_right (by omega) (by omega)
  rw [Int.add_mul, Int.one_mul] at h3
  omega
theorem atL_length : ∀ (i : Int) (d : List DimT), (atL i d).1.length = d.length
  | i, [] => rfl
  | i, x :: r => by rw [atL]; simp [atL_length i r]
theorem atL_at {i : Int} {d : List DimT} {k : Nat} {x : DimT} (h : d[k]? = some x) : atL i (d.drop k) = ((x.lo + (atL i (d.drop (k + 1))).2 % ext x) :: (atL i (d.drop (k + 1))).1, (atL i (d.drop (k + 1))).2 / ext x) := by
  rw [drop_cons h, atL]
theorem atL_range : ∀ {i : Int} {d : List DimT}, (∀ x ∈ d, GoodX x) → 0 ≤ i → 0 ≤ (atL i d).2 ∧ (atL i d).2 ≤ i
  | i, [], _, h => by rw [atL]; simp; omega
  | i, x :: r, hg, h => by
    have h1 := atL_range (d := r) (fun y hy => hg y (by simp [hy])) h
    have h2 := (hg x (by simp)).ext.1
    rw [atL]
    simp only
    have h3 := Int.ediv_nonneg h1.1 (show 0 ≤ ext x by omega)
    have h4 := Int.ediv_le_self (ext x) h1.1
    omega
theorem atL_of : ∀ {i : Int} {d : List DimT}, (∀ x ∈ d, GoodX x) → ofL d (atL i d).1 = true
  | i, [], _ => rfl
  | i, x :: r, hg => by
    have g := hg x (by simp)
    have h2 := g.ext.1
    have h3 := g.hi
    have h4 := Int.emod_nonneg (atL i r).2 (show ext x ≠ 0 by omega)
    have h5 := Int.emod_lt_of_pos (atL i r).2 (show 0 < ext x by omega)
    have hl : x.last = x.hi := if_pos h3
    have hx : ext x = x.hi - x.lo + 1 := rfl
    rw [atL, ofL, if_neg (by rw [hl]; omega)]
    exact atL_of fun y hy => hg y (by simp [hy])
/-- the number of the coordinates with a number -/
theorem idx_at : ∀ (i : Int) (d : List DimT), idxL (atL i d).2 d (atL i d).1 = i
  | i, [] => rfl
  | i, x :: r => by
    rw [atL]
    simp only
    rw [idxL]
    have h : (atL i r).2 / ext x * ext x + (x.lo + (atL i r).2 % ext x - x.lo) = (atL i r).2 := by
      have := Int.mul_ediv_add_emod (atL i r).2 (ext x)
      rw [Int.mul_comm] at this
      omega
    rw [h]
    exact idx_at i r
theorem atL_rest : ∀ {i : Int} {d : List DimT}, (∀ x ∈ d, GoodX x) → 0 ≤ i → (atL i d).2 = i / prodL d
  | i, [], _, _ => by rw [atL, prodL, Int.ediv_one]
  | i, x :: r, hg, h => by
    have h1 := (hg x (by simp)).ext.1
    have h2 := prodL_pos (d := r) (fun y hy => hg y (by simp [hy]))
    rw [atL]
    simp only
    rw [atL_rest (fun y hy => hg y (by simp [hy])) h, prodL, Int.ediv_ediv_of_nonneg (show 0 ≤ prodL r by omega), Int.mul_comm (prodL r)]
theorem idx_at0 {i : Int} {d : List DimT} (hg : ∀ x ∈ d, GoodX x) (h : 0 ≤ i) (h1 : i < prodL d) : idxL 0 d (atL i d).1 = i := by
  have h2 := idx_at i d
  rw [atL_rest hg h, Int.ediv_eq_zero_of_lt h h1] at h2
  exact h2
theorem idxL_lt : ∀ {n n' : Int} {d : List DimT} {c c' : List Int}, (∀ x ∈ d, GoodX x) → ofL d c = true → ofL d c' = true → c.length = d.length → c'.length = d.length → n < n' → idxL n d c < idxL n' d c'
  | n, n', [], c, c', _, _, _, _, _, h => by simpa [idxL] using h
  | n, n', x :: r, a :: c, a' :: c', hg, h1, h2, l1, l2, h => by
    rw [ofL] at h1 h2
    split at h1
    · cases h1
    · split at h2
      · cases h2
      · rename_i h3 h4
        rw [idxL, idxL]
        refine idxL_lt (fun y hy => hg y (by simp [hy])) h1 h2 (by simpa using l1) (by simpa using l2) ?_
        have g := hg x (by simp)
        have hl : x.last = x.hi := if_pos g.hi
        have he : ext x = x.hi - x.lo + 1 := rfl
        have h5 : (n + 1) * ext x ≤ n' * ext x := Int.mul_le_mul_of_nonneg_right (by omega) (by have := g.ext.1; omega)
        rw [Int.add_mul, Int.one_mul] at h5
        omega
  | n, n', x :: r, [], c', _, _, _, l1, _, _ => by simp at l1
  | n, n', x :: r, _ :: _, [], _, _, _, _, l2, _ => by simp at l2
theorem idxL_cmp : ∀ {n : Int} {d : List DimT} {c c' : List Int}, (∀ x ∈ d, GoodX x) → ofL d c = true → ofL d c' = true → c.length = d.length → c'.length = d.length → cmpI c c' = -1 → idxL n d c < idxL n d c'
  | n, [], c, c', _, _, _, l1, l2, h => by
    obtain rfl := List.eq_nil_of_length_eq_zero l1
    obtain rfl := List.eq_nil_of_length_eq_zero l2
    rw [cmpI] at h; cases h
  | n, x :: r, a :: c, a' :: c', hg, h1, h2, l1, l2, h => by
    rw [ofL] at h1 h2
    split at h1
    · cases h1
    · split at h2
      · cases h2
      · have hr : ∀ y ∈ r, GoodX y := fun y hy => hg y (by simp [hy])
        rw [idxL, idxL]
        rw [cmpI] at h
        split at h
        · exact idxL_lt hr h1 h2 (by simpa using l1) (by simpa using l2) (by omega)
        · split at h
          · cases h
          · obtain rfl : a = a' := by omega
            exact idxL_cmp hr h1 h2 (by simpa using l1) (by simpa using l2) h
  | n, x :: r, [], c', _, _, _, l1, _, _ => by simp at l1
  | n, x :: r, _ :: _, [], _, _, _, _, l2, _ => by simp at l2
theorem at_cmp {i k : Int} {d : List DimT} (hg : ∀ x ∈ d, GoodX x) (h0 : 0 ≤ i) (h1 : i < prodL d) (k0 : 0 ≤ k) (k1 : k < prodL d) :
    cmpI (atL i d).1 (atL k d).1 = if i < k then -1 else if k < i then 1 else 0 := by
  have e1 := idx_at0 hg h0 h1
  have e2 := idx_at0 hg k0 k1
  have l1 := atL_length i d
  have l2 := atL_length k d
  have o1 := atL_of (i := i) hg
  have o2 := atL_of (i := k) hg
  rcases cmpI_cases (atL i d).1 (atL k d).1 with h | h | h
  · have := idxL_cmp (n := 0) hg o1 o2 l1 l2 h
    rw [h, if_pos (by omega)]
  · have h9 := cmpI_zero.1 h
    rw [h9] at e1
    rw [h, if_neg (by omega), if_neg (by omega)]
  · have h9 : cmpI (atL k d).1 (atL i d).1 = -1 := by rw [cmpI_swap, h]
    have := idxL_cmp (n := 0) hg o2 o1 l2 l1 h9
    rw [h, if_neg (by omega), if_pos (by omega)]
end Go.Proofs.YtpdhlgkcjakcgaaGreatDoor
/- Volume: both contracts. -/
namespace Go.Proofs.YtpdhlgkcjakcgaaGreatDoor
open Go.RowKit

/-- two numbers -/
def RetII (a b : Int) (w : World) (e : Ending) (w' : World) : Prop := e = .returned (.tuple #[.int .i64 a, .int .i64 b]) ∧ Below w.heap.size w w'

theorem extent_any (x : DimT) (h : GoodX x) (w : World) : Calls Tryz.prog 117 #[dimV x] w (RetV' (.int .i64 (ext x)) w) := by
  have h1 := h.lo
  have h2 := h.le
  have h3 := h.hi
  obtain ⟨nm, lo, hi⟩ := x
  simp only at h1 h2 h3
  have w1 : IntKind.i64.wrap (hi - lo) = hi - lo := IntWalk.i64_in _ (by omega)
  have w2 : IntKind.i64.wrap (hi - lo + 1) = hi - lo + 1 := IntWalk.i64_in _ (by omega)
  have he : ext ⟨nm, lo, hi⟩ = hi - lo + 1 := rfl
  rw [he]
  clear he h
  go_enter Tryz.func117, Tryz.ntmps117
  go_wp2
  go_ret
  exact ⟨rfl, below_alloc _ _⟩
theorem isOpen_any (x : DimT) (w : World) : Calls Tryz.prog 116 #[dimV x] w (RetV' (.bool (x.hi == 1073741825)) w) := by
  obtain ⟨nm, lo, hi⟩ := x
  go_enter Tryz.func116, Tryz.ntmps116
  go_wp2
  go_ret
  exact ⟨rfl, below_alloc _ _⟩
theorem openB_beq {d : List DimT} {i : Nat} {x : DimT} (h : d[i]? = some x) : openB (d.drop i) = ((x.hi == (1073741825 : Int)) || openB (d.drop (i + 1))) := by
  rw [openB_at h]; rfl
set_option maxRecDepth 100000 in
theorem dimIdx_any (d : List DimT) (v : Value) (w : World) (hd : Dims w v d) :
    Calls Tryz.prog 140 #[v, .func (.func 116) #[] #[]] w (fun e w' => ∃ r : Int, e = .returned (.int .i64 r) ∧ decide (0 ≤ r) = openB d ∧ Below w.heap.size w w') := by
  have HD := Lib.hid hd
  have hl := hd.len
  obtain ⟨a, cap, rfl, c1, c2⟩ := hd.shape
  obtain ⟨R, hR⟩ : ∃ R, R = openB d := ⟨_, rfl⟩
  rw [← hR]
  have HR0 := Lib.hid hR
  clear hd hR
  go_enter Tryz.func140, Tryz.ntmps140
  go_wp2
  go_loopw [8] (fun iv wr => ∃ i : Nat, i ≤ d.length ∧ iv = .int .i64 (i : Nat) ∧ Hid (openB (d.drop i) = R) ∧ Below w.heap.size w wr) (fun iv _ => d.length - (intOf iv).toNat)
  case atStart => exact ⟨0, Nat.zero_le _, rfl, HR0.out.symm, Below.refl _ _⟩
  case round =>
    obtain ⟨i, hi, rfl, HN, hb⟩ := hrel
    have HB := Lib.hid hb
    have HDW := Lib.hid (HD.out.later DimR.lasts hb)
    clear hb
    by_cases hlt : i < d.length
    · obtain ⟨g, o, x, ea, hx, hr⟩ := HDW.out.at i hlt
      subst ea
      obtain ⟨x0, x1, x2⟩ := hr
      have hn := HN.out
      rw [openB_beq hx] at hn
      have C := Lib.hid (fun w1 => isOpen_any x w1)
      obtain ⟨nm, lo, hi'⟩ := x
      simp only at x0 x1 x2 hn C
      have HI1 : Hid (i + 1 ≤ d.length) := hlt
      have HI2 : Hid (d.length - (i + 1) < d.length - i) := by show _ < _; omega
      have ib0 : (0 : Int) ≤ (i : Int) := by omega
      have ib1 : (i : Int) < (d.length : Int) := by omega
      cases ho : (hi' == (1073741825 : Int)) with
      | true =>
        rw [ho] at hn C
        have HR : Hid (R = true) := by show _ = _; rw [← hn]; rfl
        clear ho hn hx HN
        go_wp2_with fail
        refine (C.out _).mono ?_
        rintro e w2 ⟨rfl, hb⟩
        have HB2 := Lib.hid (below_keep HB.out hb)
        clear hb C
        go_wp2
        go_ret
        rw [HR.out]
        exact ⟨_, rfl, decide_eq_true (by omega), HB2.out⟩
      | false =>
        rw [ho, Bool.false_or] at hn
        rw [ho] at C
        have HR := Lib.hid hn
        clear ho hn hx HN
        go_wp2_with fail
        refine (C.out _).mono ?_
        rintro e w2 ⟨rfl, hb⟩
        have HB2 := Lib.hid (below_keep HB.out hb)
        clear hb C
        go_wp2
        exact ⟨⟨i + 1, HI1.out, by go_num, HR.out, HB2.out⟩, HI2.out⟩
    · obtain rfl : i = d.length := by omega
      have hn := HN.out
      rw [List.drop_length] at hn
      have HNN : Hid (R = false) := hn.symm
      clear hn HN
      go_wp2
      go_ret
      rw [HNN.out]
      exact ⟨_, rfl, decide_eq_false (by omega), HB.out⟩
theorem contains_any (d : List DimT) (v : Value) (w : World) (hd : Dims w v d) :
    Calls Tryz.prog 115 #[v, .func (.func 116) #[] #[]] w (RetV' (.bool (openB d)) w) := by
  have C := Lib.hid (dimIdx_any d v w hd)
  obtain ⟨a, cap, rfl, c1, c2⟩ := hd.shape
  clear hd
  go_enter Tryz.func115, Tryz.ntmps115
  go_wp2_with fail
  refine C.out.mono ?_
  rintro e w2 ⟨r, rfl, hr, hb⟩
  have HB := Lib.hid hb
  generalize openB d = R at *
  clear hb C
  go_wp2
  go_ret
  exact ⟨rfl, HB.out⟩

theorem volume_bad (d : List DimT) (v : Value) (w : World) (hd : Dims w v d) (hs : StrD d) (h : dimsE d ≠ 0) :
    Calls Tryz.prog 61 #[v] w (RetII 0 (dimsE d) w) := by
  have C := Lib.hid (shape_any d v w hd hs)
  obtain ⟨a, cap, rfl, c1, c2⟩ := hd.shape
  have hne : (dimsE d != 0) = true := by rw [bne_iff_ne]; exact h
  generalize dimsE d = r at *
  clear hd hs h
  go_enter Tryz.func61, Tryz.ntmps61
  go_wp2_with fail
  refine C.out.mono ?_
  rintro e w1 ⟨rfl, hb⟩
  have HB := Lib.hid hb
  clear hb C
  go_wp2
  go_ret2
  exact ⟨rfl, HB.out⟩
theorem volume_open (d : List DimT) (v : Value) (w : World) (hd : Dims w v d) (hs : StrD d) (h : dimsE d = 0) (ho : openB d = true) :
    Calls Tryz.prog 61 #[v] w (RetII 0 3 w) := by
  have C := Lib.hid (shape_any d v w hd hs)
  have CO := Lib.hid (fun w1 (hb : Below w.heap.size w w1) => contains_any d v w1 (hd.later DimR.lasts hb))
  rw [h] at C
  rw [ho] at CO
  obtain ⟨a, cap, rfl, c1, c2⟩ := hd.shape
  clear hd hs h ho
  go_enter Tryz.func61, Tryz.ntmps61
  go_wp2_with fail
  refine C.out.mono ?_
  rintro e w1 ⟨rfl, hb⟩
  have HB := Lib.hid hb
  clear hb C
  go_wp2_with fail
  refine (CO.out _ HB.out).mono ?_
  rintro e w2 ⟨rfl, hb⟩
  have HB2 := Lib.hid (below_keep HB.out hb)
  clear hb CO
  go_wp2
  go_ret2
  exact ⟨rfl, HB2.out⟩
set_option maxHeartbeats 3200000 in
set_option maxRecDepth 100000 in
theorem volume_core (d : List DimT) (v : Value) (w : World) (hd : Dims w v d) (hs : StrD d) (h : dimsE d = 0) (ho : openB d = false) (r e : Int) (H1 : volL 1 d = none → r = 0 ∧ e = 14) (H2 : ∀ m, volL 1 d = some m → r = m ∧ e = 0) :
    Calls Tryz.prog 61 #[v] w (RetII r e w) := by
  have C := Lib.hid (shape_any d v w hd hs)
  have CO := Lib.hid (fun w1 (hb : Below w.heap.size w w1) => contains_any d v w1 (hd.later DimR.lasts hb))
  have HG := Lib.hid (dims_goodX h ho)
  rw [h] at C
  rw [ho] at CO
  have HD := Lib.hid hd
  have hl := hd.len
  have HH1 := Lib.hid H1
  have HH2 := Lib.hid H2
  obtain ⟨a, cap, rfl, c1, c2⟩ := hd.shape
  clear hd hs h ho H1 H2
  go_enter Tryz.func61, Tryz.ntmps61
  go_wp2_with fail
  refine C.out.mono ?_
  rintro e w1 ⟨rfl, hb⟩
  have HB := Lib.hid hb
  clear hb C
  go_wp2_with fail
  refine (CO.out _ HB.out).mono ?_
  rintro e w2 ⟨rfl, hb⟩
  have HB2 := Lib.hid (below_keep HB.out hb)
  clear hb CO
  go_wp2
  go_loopw [5, 17] (fun nv iv wr => ∃ (i : Nat) (n : Int), i ≤ d.length ∧ nv = .int .i64 n ∧ iv = .int .i64 (i : Nat) ∧ 1 ≤ n ∧ n ≤ 4611686018427387904 ∧ Hid (volL n (d.drop i) = volL 1 d) ∧ Below w.heap.size w wr) (fun _ iv _ => d.length - (intOf iv).toNat)
  case atStart => exact ⟨0, 1, Nat.zero_le _, rfl, rfl, (by omega), (by omega), rfl, HB2.out⟩
  case round =>
    obtain ⟨i, n, hi, rfl, rfl, hn1, hn2, HN, hb⟩ := hrel
    have HBR := Lib.hid hb
    have HDW := Lib.hid (HD.out.later DimR.lasts hb)
    clear hb
    by_cases hlt : i < d.length
    · obtain ⟨g, o, x, ea, hx, hr⟩ := HDW.out.at i hlt
      subst ea
      obtain ⟨x0, x1, x2⟩ := hr
      have hn := HN.out
      rw [volL_at hx] at hn
      have gx := HG.out x (List.mem_of_getElem? hx)
      have CE := Lib.hid (fun w1 => extent_any x gx w1)
      have ge := gx.ext
      obtain ⟨E, hE⟩ : ∃ E, E = ext x := ⟨_, rfl⟩
      rw [← hE] at hn CE ge
      obtain ⟨nm, lo, hi'⟩ := x
      simp only at x0 x1 x2 CE
      have hdiv : Int.tdiv 4611686018427387904 E = 4611686018427387904 / E := Int.tdiv_eq_ediv_of_nonneg (by omega)
      have hd0 : 0 ≤ 4611686018427387904 / E := Int.ediv_nonneg (by omega) (by omega)
      have hd1 : 4611686018427387904 / E ≤ 4611686018427387904 := Int.ediv_le_self _ (by omega)
      have hst := fun h => vol_step (n := n) (e := E) hn1 ge.1 h
      obtain ⟨D, hD⟩ : ∃ D, D = 4611686018427387904 / E := ⟨_, rfl⟩
      rw [← hD] at hn hdiv hd0 hd1 hst
      have HST := Lib.hid hst
      have hwD : IntKind.i64.wrap D = D := IntWalk.i64_in _ (by omega)
      have hne : ¬ E = 0 := by omega
      have HNN := Lib.hid hn
      have HI1 : Hid (i + 1 ≤ d.length) := hlt
      have HI2 : Hid (d.length - (i + 1) < d.length - i) := by show _ < _; omega
      have ib0 : (0 : Int) ≤ (i : Int) := by omega
      have ib1 : (i : Int) < (d.length : Int) := by omega
      have HN1 := Lib.hid (And.intro hn1 hn2)
      clear hx hn HN gx hE hD hst hd0 hd1 ge hn1 hn2
      by_cases hlo : D < n
      · have t1 : decide (D < n) = true := decide_eq_true hlo
        have hre := HH1.out (by rw [← HNN.out, if_pos hlo])
        have HRE := Lib.hid hre
        clear hlo hre
        go_wp2_with fail
        refine (CE.out _).mono ?_
        rintro e w3 ⟨rfl, hb⟩
        have HB3 := Lib.hid (below_keep HBR.out (below_keep (below_alloc wr (.cells #[strV nm, .int .i64 lo, .int .i64 hi'] 28)) hb))
        clear hb CE
        go_wp2
        go_ret2
        rw [HRE.out.1, HRE.out.2]
        exact ⟨rfl, HB3.out⟩
      · have t1 : decide (D < n) = false := decide_eq_false hlo
        have hs := HST.out hlo
        obtain ⟨M, hM⟩ : ∃ M, M = n * E := ⟨_, rfl⟩
        have hwm : IntKind.i64.wrap (n * E) = M := by rw [hM]; exact IntWalk.i64_in _ (by omega)
        rw [← hM] at hs
        have HNX : Hid (volL M (d.drop (i + 1)) = volL 1 d) := by show _ = _; rw [← HNN.out, if_neg hlo, hM]
        have HS := Lib.hid hs
        clear hlo hs hM
        go_wp2_with fail
        refine (CE.out _).mono ?_
        rintro e w3 ⟨rfl, hb⟩
        have HB3 := Lib.hid (below_keep (below_alloc wr (.cells #[strV nm, .int .i64 lo, .int .i64 hi'] 28)) hb)
        have hcA : ∀ o, w3.cell? ⟨wr.heap.size, o, none⟩ = (wr.alloc (.cells #[strV nm, .int .i64 lo, .int .i64 hi'] 28)).cell? ⟨wr.heap.size, o, none⟩ := fun o => hb.cell (p := ⟨wr.heap.size, o, none⟩) (by simp)
        have hc0 : w3.cell? ⟨wr.heap.size, 0, none⟩ = some (strV nm) := by rw [hcA, World.cell?_alloc_at _ _ _ _ rfl]; rfl
        have hc1 : w3.cell? ⟨wr.heap.size, 1, none⟩ = some (.int .i64 lo) := by rw [hcA, World.cell?_alloc_at _ _ _ _ rfl]; rfl
        have hc2 : w3.cell? ⟨wr.heap.size, 2, none⟩ = some (.int .i64 hi') := by rw [hcA, World.cell?_alloc_at _ _ _ _ rfl]; rfl
        clear hb hcA
        go_wp2_with fail
        refine (CE.out _).mono ?_
        rintro e w4 ⟨rfl, hb⟩
        have HB4 := Lib.hid (below_keep HBR.out (below_keep HB3.out hb))
        clear hb CE hc0 hc1 hc2
        go_wp2
        exact ⟨⟨i + 1, M, HI1.out, rfl, by go_num, HS.out.1, HS.out.2, HNX.out, HB4.out⟩, HI2.out⟩
    · obtain rfl : i = d.length := by omega
      have hn := HN.out
      rw [List.drop_length, volL] at hn
      have HRE := Lib.hid (HH2.out n hn.symm)
      clear hn HN
      go_wp2
      go_ret2
      rw [HRE.out.1, HRE.out.2]
      exact ⟨rfl, HBR.out⟩
theorem volume_any (d : List DimT) (v : Value) (w : World) (hd : Dims w v d) (hs : StrD d) :
    Calls Tryz.prog 61 #[v] w (RetII (volQ d) (volE d) w) := by
  by_cases h : dimsE d = 0
  · cases ho : openB d with
    | true =>
      have hE : volE d = 3 := by unfold volE; rw [if_neg (fun h' => h' h), if_pos ho]
      have hQ : volQ d = 0 := by unfold volQ; rw [hE, if_neg (by decide)]
      rw [hE, hQ]
      exact volume_open d v w hd hs h ho
    | false =>
      have hE : volE d = if volL 1 d = none then 14 else 0 := by unfold volE; rw [if_neg (fun h' => h' h), if_neg (by rw [ho]; decide)]
      refine volume_core d v w hd hs h ho _ _ (fun hn => ?_) (fun m hm => ?_)
      · rw [if_pos hn] at hE
        exact ⟨by unfold volQ; rw [hE, if_neg (by decide)], hE⟩
      · rw [if_neg (by rw [hm]; exact fun h => by cases h)] at hE
        exact ⟨by unfold volQ; rw [hE, if_pos rfl, hm]; rfl, hE⟩
  · have hE : volE d = dimsE d := by unfold volE; rw [if_pos h]
    have hQ : volQ d = 0 := by unfold volQ; rw [hE, if_neg h]
    rw [hE, hQ]
    exact volume_bad d v w hd hs h
theorem rvolume_bad (d : List DimT) (v : Value) (w : World) (hd : Dims w v d) (hs : StrD d) (h : dimsE d ≠ 0) :
    Calls Tryz.prog 62 #[v] w (RetII 0 (dimsE d) w) := by
  have C := Lib.hid (rdims_any d v w hd hs)
  obtain ⟨a, cap, rfl, c1, c2⟩ := hd.shape
  have hne : (dimsE d != 0) = true := by rw [bne_iff_ne]; exact h
  generalize dimsE d = r at *
  clear hd hs h
  go_enter Tryz.func62, Tryz.ntmps62
  go_wp2_with fail
  refine C.out.mono ?_
  rintro e w1 ⟨rfl, hb⟩
  have HB := Lib.hid hb
  clear hb C
  go_wp2
  go_ret2
  exact ⟨rfl, HB.out⟩
set_option maxHeartbeats 3200000 in
set_option maxRecDepth 100000 in
theorem rvolume_core (d : List DimT) (v : Value) (w : World) (hd : Dims w v d) (hs : StrD d) (h : dimsE d = 0) (r e : Int) (H0 : openB d = true → r = 0 ∧ e = 3) (H1 : openB d = false → volL 1 d = none → r = 0 ∧ e = 14) (H2 : openB d = false → ∀ m, volL 1 d = some m → r = m ∧ e = 0) :
    Calls Tryz.prog 62 #[v] w (RetII r e w) := by
  have C := Lib.hid (rdims_any d v w hd hs)
  have HGX : Hid (openB d = false → ∀ x ∈ d, GoodX x) := fun ho => dims_goodX h ho
  rw [h] at C
  have HD := Lib.hid hd
  have hl := hd.len
  have HH0 := Lib.hid H0
  have HH1 := Lib.hid H1
  have HH2 := Lib.hid H2
  obtain ⟨R, hR⟩ : ∃ R, R = openB d := ⟨_, rfl⟩
  rw [← hR] at HH0 HH1 HH2 HGX
  have HR0 := Lib.hid hR
  obtain ⟨a, cap, rfl, c1, c2⟩ := hd.shape
  clear hd hs h H0 H1 H2 hR
  go_enter Tryz.func62, Tryz.ntmps62
  go_wp2_with fail
  refine C.out.mono ?_
  rintro e w1 ⟨rfl, hb⟩
  have HB := Lib.hid hb
  clear hb C
  go_wp2
  go_loopw [5] (fun iv wr => ∃ i : Nat, i ≤ d.length ∧ iv = .int .i64 (i : Nat) ∧ Hid (openB (d.drop i) = R) ∧ Below w.heap.size w wr) (fun iv _ => d.length - (intOf iv).toNat)
  case atStart => exact ⟨0, Nat.zero_le _, rfl, HR0.out.symm, HB.out⟩
  case round =>
    obtain ⟨i, hi, rfl, HN, hb⟩ := hrel
    have HBR := Lib.hid hb
    have HDW := Lib.hid (HD.out.later DimR.lasts hb)
    clear hb
    by_cases hlt : i < d.length
    · obtain ⟨g, o, x, ea, hx, hr⟩ := HDW.out.at i hlt
      subst ea
      obtain ⟨x0, x1, x2⟩ := hr
      have hn := HN.out
      rw [openB_beq hx] at hn
      obtain ⟨nm, lo, hi'⟩ := x
      simp only at x0 x1 x2 hn
      have HI1 : Hid (i + 1 ≤ d.length) := hlt
      have HI2 : Hid (d.length - (i + 1) < d.length - i) := by show _ < _; omega
      have ib0 : (0 : Int) ≤ (i : Int) := by omega
      have ib1 : (i : Int) < (d.length : Int) := by omega
      cases ho : (hi' == (1073741825 : Int)) with
      | true =>
        rw [ho] at hn
        have HRE := Lib.hid (HH0.out (by rw [← hn]; rfl))
        clear hn hx HN
        go_wp2
        go_ret2
        rw [HRE.out.1, HRE.out.2]
        exact ⟨rfl, HBR.out⟩
      | false =>
        rw [ho, Bool.false_or] at hn
        have HR := Lib.hid hn
        clear hn hx HN
        go_wp2
        exact ⟨⟨i + 1, HI1.out, by go_num, HR.out, HBR.out⟩, HI2.out⟩
    · obtain rfl : i = d.length := by omega
      have hn := HN.out
      rw [List.drop_length] at hn
      have hRF : R = false := hn.symm
      subst hRF
      have HG := Lib.hid (HGX.out rfl)
      have HG1 := Lib.hid (HH1.out rfl)
      have HG2 := Lib.hid (HH2.out rfl)
      clear hn HN HGX HH0 HH1 HH2 HR0 HDW
      have HBR2 := Lib.hid HBR.out
      go_wp2
      go_loopw [6, 7] (fun nv iv wx => ∃ (i : Nat) (n : Int), i ≤ d.length ∧ nv = .int .i64 n ∧ iv = .int .i64 (i : Nat) ∧ 1 ≤ n ∧ n ≤ 4611686018427387904 ∧ Hid (volL n (d.drop i) = volL 1 d) ∧ Below w.heap.size w wx) (fun _ iv _ => d.length - (intOf iv).toNat)
      case atStart => exact ⟨0, 1, Nat.zero_le _, rfl, rfl, (by omega), (by omega), rfl, HBR2.out⟩
      case round =>
        obtain ⟨i, n, hi, rfl, rfl, hn1, hn2, HN, hb⟩ := hrel
        have HBX := Lib.hid hb
        have HDW := Lib.hid (HD.out.later DimR.lasts hb)
        clear hb
        by_cases hlt : i < d.length
        · obtain ⟨g, o, x, ea, hx, hr⟩ := HDW.out.at i hlt
          subst ea
          obtain ⟨x0, x1, x2⟩ := hr
          have hn := HN.out
          rw [volL_at hx] at hn
          have gx := HG.out x (List.mem_of_getElem? hx)
          have ge := gx.ext
          have g1 := gx.lo
          have g2 := gx.le
          have g3 := gx.hi
          obtain ⟨E, hE⟩ : ∃ E, E = ext x := ⟨_, rfl⟩
          rw [← hE] at hn ge
          obtain ⟨nm, lo, hi'⟩ := x
          simp only at x0 x1 x2 g1 g2 g3
          have w1 : IntKind.i64.wrap (hi' - lo) = hi' - lo := IntWalk.i64_in _ (by omega)
          have w2 : IntKind.i64.wrap (hi' - lo + 1) = E := by rw [hE]; exact IntWalk.i64_in _ (by omega)
          have hdiv : Int.tdiv 4611686018427387904 E = 4611686018427387904 / E := Int.tdiv_eq_ediv_of_nonneg (by omega)
          have hd0 : 0 ≤ 4611686018427387904 / E := Int.ediv_nonneg (by omega) (by omega)
          have hd1 : 4611686018427387904 / E ≤ 4611686018427387904 := Int.ediv_le_self _ (by omega)
          have hst := fun h => vol_step (n := n) (e := E) hn1 ge.1 h
          obtain ⟨D, hD⟩ : ∃ D, D = 4611686018427387904 / E := ⟨_, rfl⟩
          rw [← hD] at hn hdiv hd0 hd1 hst
          have HST := Lib.hid hst
          have hwD : IntKind.i64.wrap D = D := IntWalk.i64_in _ (by omega)
          have hne : ¬ E = 0 := by omega
          have HNN := Lib.hid hn
          have HI1 : Hid (i + 1 ≤ d.length) := hlt
          have HI2 : Hid (d.length - (i + 1) < d.length - i) := by show _ < _; omega
          have ib0 : (0 : Int) ≤ (i : Int) := by omega
          have ib1 : (i : Int) < (d.length : Int) := by omega
          have K : Hid (∀ w', Below wr.heap.size wr w' → w'.cell? ⟨g, o + i * 3 + 1, none⟩ = some (.int .i64 lo) ∧ w'.cell? ⟨g, o + i * 3 + 2, none⟩ = some (.int .i64 hi')) := fun w' h => ⟨cell_later x1 h, cell_later x2 h⟩
          clear hx hn HN gx hE hD hst hd0 hd1 ge hn1 hn2 x0 g1 g2 g3
          by_cases hlo : D < n
          · have t1 : decide (D < n) = true := decide_eq_true hlo
            have HRE := Lib.hid (HG1.out (by rw [← HNN.out, if_pos hlo]))
            clear hlo
            go_wp2_with fail
            go_quiet (fail)
            have HBE := Lib.hid (below_keep HBX.out (below_drewN' wr nq))
            go_wp2
            go_ret2
            rw [HRE.out.1, HRE.out.2]
            exact ⟨rfl, HBE.out⟩
          · have t1 : decide (D < n) = false := decide_eq_false hlo
            have hs := HST.out hlo
            obtain ⟨M, hM⟩ : ∃ M, M = n * E := ⟨_, rfl⟩
            have hwm : IntKind.i64.wrap (n * E) = M := by rw [hM]; exact IntWalk.i64_in _ (by omega)
            rw [← hM] at hs
            have HNX : Hid (volL M (d.drop (i + 1)) = volL 1 d) := by show _ = _; rw [← HNN.out, if_neg hlo, hM]
            have HS := Lib.hid hs
            clear hlo hs hM
            go_wp2_with fail
            go_quiet (fail)
            have HBE := Lib.hid (below_keep HBX.out (below_drewN' wr nq))
            go_wp2
            exact ⟨⟨i + 1, M, HI1.out, rfl, by go_num, HS.out.1, HS.out.2, HNX.out, HBE.out⟩, HI2.out⟩
        · obtain rfl : i = d.length := by omega
          have hn := HN.out
          rw [List.drop_length, volL] at hn
          have HRE := Lib.hid (HG2.out n hn.symm)
          clear hn HN
          go_wp2
          go_ret2
          rw [HRE.out.1, HRE.out.2]
          exact ⟨rfl, HBX.out⟩
theorem rvolume_any (d : List DimT) (v : Value) (w : World) (hd : Dims w v d) (hs : StrD d) :
    Calls Tryz.prog 62 #[v] w (RetII (volQ d) (volE d) w) := by
  by_cases h : dimsE d = 0
  · refine rvolume_core d v w hd hs h _ _ (fun ho => ?_) (fun ho hn => ?_) (fun ho m hm => ?_)
    · have hE : volE d = 3 := by unfold volE; rw [if_neg (fun h' => h' h), if_pos ho]
      exact ⟨by unfold volQ; rw [hE, if_neg (by decide)], hE⟩
    · have hE : volE d = 14 := by unfold volE; rw [if_neg (fun h' => h' h), if_neg (by rw [ho]; decide), if_pos hn]
      exact ⟨by unfold volQ; rw [hE, if_neg (by decide)], hE⟩
    · have hE : volE d = 0 := by unfold volE; rw [if_neg (fun h' => h' h), if_neg (by rw [ho]; decide), if_neg (by rw [hm]; exact fun h => by cases h)]
      exact ⟨by unfold volQ; rw [hE, if_pos rfl, hm]; rfl, hE⟩
  · have hE : volE d = dimsE d := by unfold volE; rw [if_pos h]
    have hQ : volQ d = 0 := by unfold volQ; rw [hE, if_neg h]
    rw [hE, hQ]
    exact rvolume_bad d v w hd hs h
end Go.Proofs.YtpdhlgkcjakcgaaGreatDoor
/- Index: both contracts. -/
namespace Go.Proofs.YtpdhlgkcjakcgaaGreatDoor
open Go.RowKit

theorem dim_at (w : World) (nm : List UInt8) (lo hi : Int) : ∃ W1, W1 = w.alloc (.cells #[strV nm, .int .i64 lo, .int .i64 hi] 28) ∧ Below w.heap.size w W1 ∧ ∀ w', Below W1.heap.size W1 w' → w'.cell? ⟨w.heap.size, 0, none⟩ = some (strV nm) ∧ w'.cell? ⟨w.heap.size, 1, none⟩ = some (.int .i64 lo) ∧ w'.cell? ⟨w.heap.size, 2, none⟩ = some (.int .i64 hi) := by
  refine ⟨_, rfl, below_alloc _ _, fun w' hb => ?_⟩
  have h1 : ∀ j, w'.cell? ⟨w.heap.size, j, none⟩ = (w.alloc (.cells #[strV nm, .int .i64 lo, .int .i64 hi] 28)).cell? ⟨w.heap.size, j, none⟩ := fun j => hb.cell (p := ⟨w.heap.size, j, none⟩) (by simp)
  refine ⟨?_, ?_, ?_⟩ <;> (rw [h1, World.cell?_alloc_at _ _ _ _ rfl]; rfl)

theorem index_bad (d : List DimT) (c : List Int) (v u : Value) (w : World) (hd : Dims w v d) (hc : Ints w u c) (hs : StrD d) (h : volE d ≠ 0) :
    Calls Tryz.prog 63 #[v, u] w (RetII 0 (volE d) w) := by
  have C := Lib.hid (volume_any d v w hd hs)
  obtain ⟨a, cap, rfl, c1, c2⟩ := hd.shape
  obtain ⟨a', cap', rfl, c1', c2'⟩ := hc.shape
  have hne : (volE d != 0) = true := by rw [bne_iff_ne]; exact h
  generalize volE d = r at *
  generalize volQ d = q at *
  clear hd hc hs h
  go_enter Tryz.func63, Tryz.ntmps63
  go_wp2_with fail
  refine C.out.mono ?_
  rintro e w1 ⟨rfl, hb⟩
  have HB := Lib.hid hb
  clear hb C
  go_wp2
  go_ret2
  exact ⟨rfl, HB.out⟩
theorem index_shape (d : List DimT) (c : List Int) (v u : Value) (w : World) (hd : Dims w v d) (hc : Ints w u c) (hs : StrD d) (h : volE d = 0) (h2 : c.length ≠ d.length) :
    Calls Tryz.prog 63 #[v, u] w (RetII 0 13 w) := by
  have C := Lib.hid (volume_any d v w hd hs)
  rw [h] at C
  obtain ⟨a, cap, rfl, c1, c2⟩ := hd.shape
  obtain ⟨a', cap', rfl, c1', c2'⟩ := hc.shape
  have hne : ((c.length : Int) != d.length) = true := by rw [bne_iff_ne]; omega
  generalize volQ d = q at *
  clear hd hc hs h h2
  go_enter Tryz.func63, Tryz.ntmps63
  go_wp2_with fail
  refine C.out.mono ?_
  rintro e w1 ⟨rfl, hb⟩
  have HB := Lib.hid hb
  clear hb C
  go_wp2
  go_ret2
  exact ⟨rfl, HB.out⟩
theorem index_range (d : List DimT) (c : List Int) (v u : Value) (w : World) (hd : Dims w v d) (hc : Ints w u c) (hs : StrD d) (h : volE d = 0) (h2 : c.length = d.length) (h3 : ofL d c = false) :
    Calls Tryz.prog 63 #[v, u] w (RetII 0 3 w) := by
  have C := Lib.hid (volume_any d v w hd hs)
  have CO := Lib.hid (fun w1 (hb : Below w.heap.size w w1) => ofD_any d c v u w1 (hd.later DimR.lasts hb) (hc.later IntR.lasts hb))
  rw [h] at C
  rw [show ofB d c = false from by unfold ofB; rw [h3, Bool.and_false]] at CO
  obtain ⟨a, cap, rfl, c1, c2⟩ := hd.shape
  obtain ⟨a', cap', rfl, c1', c2'⟩ := hc.shape
  generalize volQ d = q at *
  simp only [h2] at CO ⊢
  clear hd hc hs h h2 h3 c1'
  go_enter Tryz.func63, Tryz.ntmps63
  go_wp2_with fail
  refine C.out.mono ?_
  rintro e w1 ⟨rfl, hb⟩
  have HB := Lib.hid hb
  clear hb C
  go_wp2_with fail
  refine (CO.out _ HB.out).mono ?_
  rintro e w2 ⟨rfl, hb⟩
  have HB2 := Lib.hid (below_keep HB.out hb)
  clear hb CO
  go_wp2
  go_ret2
  exact ⟨rfl, HB2.out⟩
set_option maxHeartbeats 3200000 in
set_option maxRecDepth 100000 in
theorem index_core (d : List DimT) (c : List Int) (v u : Value) (w : World) (hd : Dims w v d) (hc : Ints w u c) (hs : StrD d) (h : volE d = 0) (h2 : c.length = d.length) (h3 : ofL d c = true) :
    Calls Tryz.prog 63 #[v, u] w (RetII (idxL 0 d c) 0 w) := by
  have C := Lib.hid (volume_any d v w hd hs)
  have CO := Lib.hid (fun w1 (hb : Below w.heap.size w w1) => ofD_any d c v u w1 (hd.later DimR.lasts hb) (hc.later IntR.lasts hb))
  have HG := Lib.hid (vol_range h).2.2.2
  have HO := Lib.hid h3
  obtain ⟨m, hm⟩ : ∃ m, volL 1 d = some m := by obtain ⟨-, -, m, hm, -⟩ := volE_zero h; exact ⟨m, hm⟩
  have HM := Lib.hid hm
  rw [h] at C
  rw [show ofB d c = true from by unfold ofB; rw [h3, decide_eq_true h2]; rfl] at CO
  have HD := Lib.hid hd
  have HC := Lib.hid hc
  have HL := Lib.hid h2
  have hl := hd.len
  obtain ⟨R, hR⟩ : ∃ R, R = idxL 0 d c := ⟨_, rfl⟩
  rw [← hR]
  have HR0 := Lib.hid hR
  obtain ⟨a, cap, rfl, c1, c2⟩ := hd.shape
  obtain ⟨a', cap', rfl, c1', c2'⟩ := hc.shape
  generalize volQ d = q at *
  simp only [h2] at CO HC ⊢
  clear hd hc hs h h2 h3 hm hR c1'
  go_enter Tryz.func63, Tryz.ntmps63
  go_wp2_with fail
  refine C.out.mono ?_
  rintro e w1 ⟨rfl, hb⟩
  have HB := Lib.hid hb
  clear hb C
  go_wp2_with fail
  refine (CO.out _ HB.out).mono ?_
  rintro e w2 ⟨rfl, hb⟩
  have HB2 := Lib.hid (below_keep HB.out hb)
  clear hb CO
  go_wp2
  go_loopw [8, 30] (fun nv iv wr => ∃ (i : Nat) (n V : Int), i ≤ d.length ∧ nv = .int .i64 n ∧ iv = .int .i64 (i : Nat) ∧ Hid (0 ≤ n ∧ n < V ∧ 1 ≤ V ∧ V ≤ 4611686018427387904 ∧ volL V (d.drop i) = some m ∧ idxL n (d.drop i) (c.drop i) = R) ∧ Below w.heap.size w wr) (fun _ iv _ => d.length - (intOf iv).toNat)
  case atStart => exact ⟨0, 0, 1, Nat.zero_le _, rfl, rfl, ⟨by omega, by omega, by omega, by omega, HM.out, HR0.out.symm⟩, HB2.out⟩
  case round =>
    obtain ⟨i, n, V, hi, rfl, rfl, HN, hb⟩ := hrel
    have HBR := Lib.hid hb
    have HDW := Lib.hid (HD.out.later DimR.lasts hb)
    have HCW := Lib.hid (HC.out.later IntR.lasts hb)
    clear hb
    by_cases hlt : i < d.length
    · obtain ⟨g, o, x, ea, hx, hr⟩ := HDW.out.at i hlt
      obtain ⟨g', o', y, ea', hy, hr'⟩ := HCW.out.at i (by rw [HL.out]; exact hlt)
      subst ea ea'
      obtain ⟨x0, x1, x2⟩ := hr
      rw [Nat.mul_one] at hr'
      unfold IntR at hr'
      obtain ⟨n0, n1, v1, v2, hv, hn⟩ := HN.out
      rw [idxL_at hx hy] at hn
      rw [volL_at hx] at hv
      have gx := HG.out x (List.mem_of_getElem? hx)
      have CE := Lib.hid (fun w1 => extent_any x gx w1)
      have ge := gx.ext
      obtain ⟨q1, q2⟩ := ofL_good HO.out hx hy
      rw [last_hi gx.hi] at q2
      have g1 := gx.lo
      have g2 := gx.le
      have g3 := gx.hi
      have hEx : ext x = x.hi - x.lo + 1 := rfl
      obtain ⟨E, hE⟩ : ∃ E, E = ext x := ⟨_, rfl⟩
      rw [← hE] at hn hv CE ge hEx
      have hlo : ¬ 4611686018427387904 / E < V := fun h => by rw [if_pos h] at hv; cases hv
      rw [if_neg hlo] at hv
      have hvs := vol_step v1 ge.1 hlo
      obtain ⟨k, hk⟩ : ∃ k, k = y - x.lo := ⟨_, rfl⟩
      have his := idx_step n0 n1 ge.1 (show 0 ≤ k by omega) (show k < E by omega) hvs.2
      obtain ⟨nm, lo, hi'⟩ := x
      simp only at x0 x1 x2 CE hEx hk q1 q2 g1 g2 g3 hn
      rw [← hk] at hn
      obtain ⟨Pq, hP⟩ : ∃ Pq, Pq = n * E := ⟨_, rfl⟩
      rw [← hP] at hn his
      have w1 : IntKind.i64.wrap (hi' - lo) = hi' - lo := IntWalk.i64_in _ (by omega)
      have w2 : IntKind.i64.wrap (hi' - lo + 1) = E := by rw [hEx]; exact IntWalk.i64_in _ (by omega)
      have w3 : IntKind.i64.wrap (n * E) = Pq := by rw [← hP]; exact IntWalk.i64_in _ (by omega)
      have w4 : IntKind.i64.wrap (Pq + y) = Pq + y := IntWalk.i64_in _ (by omega)
      obtain ⟨M, hM⟩ : ∃ M, M = Pq + k := ⟨_, rfl⟩
      have w5 : IntKind.i64.wrap (Pq + y - lo) = M := by rw [hM, hk, show Pq + (y - lo) = Pq + y - lo by omega]; exact IntWalk.i64_in _ (by omega)
      rw [← hM] at hn his
      have HS : Hid (0 ≤ M ∧ M < V * E ∧ 1 ≤ V * E ∧ V * E ≤ 4611686018427387904 ∧ volL (V * E) (d.drop (i + 1)) = some m ∧ idxL M (d.drop (i + 1)) (c.drop (i + 1)) = R) := ⟨his.2.2.1, his.2.1, hvs.1, hvs.2, hv, hn⟩
      have HI1 : Hid (i + 1 ≤ d.length) := hlt
      have HI2 : Hid (d.length - (i + 1) < d.length - i) := by show _ < _; omega
      have ib0 : (0 : Int) ≤ (i : Int) := by omega
      have ib1 : (i : Int) < (d.length : Int) := by omega
      clear hx hy hn hv HN gx hE hEx hP hM hk hvs his hlo ge n0 n1 v1 v2 q1 q2 g1 g2 g3
      obtain ⟨W1, hW1, hb1, hx1⟩ := dim_at wr nm lo hi'
      have HB1 := Lib.hid hb1
      have K : Hid (∀ w', Below W1.heap.size W1 w' → w'.cell? ⟨wr.heap.size, 0, none⟩ = some (strV nm) ∧ w'.cell? ⟨wr.heap.size, 1, none⟩ = some (.int .i64 lo) ∧ w'.cell? ⟨wr.heap.size, 2, none⟩ = some (.int .i64 hi') ∧ w'.cell? ⟨g', o' + i, none⟩ = some (.int .i64 y) ∧ Below W1.heap.size W1 w') := fun w' h =>
        ⟨(hx1 _ h).1, (hx1 _ h).2.1, (hx1 _ h).2.2, cell_later hr' (below_keep hb1 h), h⟩
      clear w1 w2 hb1 hx1
      go_upto_region 12 with (fail)
      rw [← hW1]
      clear hW1 x0 x1 x2 hr'
      go_region_held3 (fun w' => w'.cell? ⟨wr.heap.size, 0, none⟩ = some (strV nm) ∧ w'.cell? ⟨wr.heap.size, 1, none⟩ = some (.int .i64 lo) ∧ w'.cell? ⟨wr.heap.size, 2, none⟩ = some (.int .i64 hi') ∧ w'.cell? ⟨g', o' + i, none⟩ = some (.int .i64 y) ∧ Below W1.heap.size W1 w')
        (first | exact K.out _ (Below.refl _ _).drew | exact K.out _ (by assumption))
        ((go_at_call 117; refine (CE.out _).mono ?_; rintro e z ⟨rfl, hb⟩; have hbz : Below W1.heap.size W1 z := below_keep (Below.refl _ _).drew hb))
      all_goals
        have HBE := Lib.hid (below_keep HBR.out (below_keep HB1.out hbz))
        clear hb hbz w3 w4 w5
        go_wp2
        exact ⟨⟨i + 1, M, V * E, HI1.out, rfl, by go_num, HS.out, HBE.out⟩, HI2.out⟩
    · obtain rfl : i = d.length := by omega
      have hn := HN.out.2.2.2.2.2
      rw [List.drop_length, idxL] at hn
      · have HNN := Lib.hid hn
        clear hn HN
        go_wp2
        go_ret2
        rw [← HNN.out]
        exact ⟨rfl, HBR.out⟩
      · intro _ _ _ _ h; cases h
theorem index_any (d : List DimT) (c : List Int) (v u : Value) (w : World) (hd : Dims w v d) (hc : Ints w u c) (hs : StrD d) :
    Calls Tryz.prog 63 #[v, u] w (RetII (idxQ d c) (idxE d c) w) := by
  unfold idxQ idxE
  by_cases h : volE d = 0
  · rw [if_neg (show ¬ (volE d ≠ 0) from fun h' => h' h)]
    by_cases h2 : c.length = d.length
    · rw [if_neg (show ¬ (c.length ≠ d.length) from fun h' => h' h2)]
      cases h3 : ofL d c with
      | false => exact index_range d c v u w hd hc hs h h2 h3
      | true => exact index_core d c v u w hd hc hs h h2 h3
    · rw [if_pos h2, if_neg (by decide)]
      exact index_shape d c v u w hd hc hs h h2
  · rw [if_pos h, if_neg h]
    exact index_bad d c v u w hd hc hs h

theorem rindex_bad (d : List DimT) (c : List Int) (v u : Value) (w : World) (hd : Dims w v d) (hc : Ints w u c) (hs : StrD d) (h : volE d ≠ 0) :
    Calls Tryz.prog 64 #[v, u] w (RetII 0 (volE d) w) := by
  have C := Lib.hid (rvolume_any d v w hd hs)
  obtain ⟨a, cap, rfl, c1, c2⟩ := hd.shape
  obtain ⟨a', cap', rfl, c1', c2'⟩ := hc.shape
  have hne : (volE d != 0) = true := by rw [bne_iff_ne]; exact h
  generalize volE d = r at *
  generalize volQ d = q at *
  clear hd hc hs h
  go_enter Tryz.func64, Tryz.ntmps64
  go_wp2_with fail
  refine C.out.mono ?_
  rintro e w1 ⟨rfl, hb⟩
  have HB := Lib.hid hb
  clear hb C
  go_wp2
  go_ret2
  exact ⟨rfl, HB.out⟩
theorem rindex_shape (d : List DimT) (c : List Int) (v u : Value) (w : World) (hd : Dims w v d) (hc : Ints w u c) (hs : StrD d) (h : volE d = 0) (h2 : c.length ≠ d.length) :
    Calls Tryz.prog 64 #[v, u] w (RetII 0 13 w) := by
  have C := Lib.hid (rvolume_any d v w hd hs)
  rw [h] at C
  obtain ⟨a, cap, rfl, c1, c2⟩ := hd.shape
  obtain ⟨a', cap', rfl, c1', c2'⟩ := hc.shape
  have hne : ((c.length : Int) != d.length) = true := by rw [bne_iff_ne]; omega
  generalize volQ d = q at *
  clear hd hc hs h h2
  go_enter Tryz.func64, Tryz.ntmps64
  go_wp2_with fail
  refine C.out.mono ?_
  rintro e w1 ⟨rfl, hb⟩
  have HB := Lib.hid hb
  clear hb C
  go_wp2
  go_ret2
  exact ⟨rfl, HB.out⟩
theorem rindex_range (d : List DimT) (c : List Int) (v u : Value) (w : World) (hd : Dims w v d) (hc : Ints w u c) (hs : StrD d) (h : volE d = 0) (h2 : c.length = d.length) (h3 : ofL d c = false) :
    Calls Tryz.prog 64 #[v, u] w (RetII 0 3 w) := by
  have C := Lib.hid (rvolume_any d v w hd hs)
  have CO := Lib.hid (fun w1 (hb : Below w.heap.size w w1) => rof_any d c v u w1 (hd.later DimR.lasts hb) (hc.later IntR.lasts hb))
  rw [h] at C
  rw [show ofB d c = false from by unfold ofB; rw [h3, Bool.and_false]] at CO
  obtain ⟨a, cap, rfl, c1, c2⟩ := hd.shape
  obtain ⟨a', cap', rfl, c1', c2'⟩ := hc.shape
  generalize volQ d = q at *
  simp only [h2] at CO ⊢
  clear hd hc hs h h2 h3 c1'
  go_enter Tryz.func64, Tryz.ntmps64
  go_wp2_with fail
  refine C.out.mono ?_
  rintro e w1 ⟨rfl, hb⟩
  have HB := Lib.hid hb
  clear hb C
  go_wp2_with fail
  refine (CO.out _ HB.out).mono ?_
  rintro e w2 ⟨rfl, hb⟩
  have HB2 := Lib.hid (below_keep HB.out hb)
  clear hb CO
  go_wp2
  go_ret2
  exact ⟨rfl, HB2.out⟩
set_option maxHeartbeats 3200000 in
set_option maxRecDepth 100000 in
theorem rindex_core (d : List DimT) (c : List Int) (v u : Value) (w : World) (hd : Dims w v d) (hc : Ints w u c) (hs : StrD d) (h : volE d = 0) (h2 : c.length = d.length) (h3 : ofL d c = true) :
    Calls Tryz.prog 64 #[v, u] w (RetII (idxL 0 d c) 0 w) := by
  have C := Lib.hid (rvolume_any d v w hd hs)
  have CO := Lib.hid (fun w1 (hb : Below w.heap.size w w1) => rof_any d c v u w1 (hd.later DimR.lasts hb) (hc.later IntR.lasts hb))
  have HG := Lib.hid (vol_range h).2.2.2
  have HO := Lib.hid h3
  obtain ⟨m, hm⟩ : ∃ m, volL 1 d = some m := by obtain ⟨-, -, m, hm, -⟩ := volE_zero h; exact ⟨m, hm⟩
  have HM := Lib.hid hm
  rw [h] at C
  rw [show ofB d c = true from by unfold ofB; rw [h3, decide_eq_true h2]; rfl] at CO
  have HD := Lib.hid hd
  have HC := Lib.hid hc
  have HL := Lib.hid h2
  have hl := hd.len
  obtain ⟨R, hR⟩ : ∃ R, R = idxL 0 d c := ⟨_, rfl⟩
  rw [← hR]
  have HR0 := Lib.hid hR
  obtain ⟨a, cap, rfl, c1, c2⟩ := hd.shape
  obtain ⟨a', cap', rfl, c1', c2'⟩ := hc.shape
  generalize volQ d = q at *
  simp only [h2] at CO HC ⊢
  clear hd hc hs h h2 h3 hm hR c1'
  go_enter Tryz.func64, Tryz.ntmps64
  go_wp2_with fail
  refine C.out.mono ?_
  rintro e w1 ⟨rfl, hb⟩
  have HB := Lib.hid hb
  clear hb C
  go_wp2_with fail
  refine (CO.out _ HB.out).mono ?_
  rintro e w2 ⟨rfl, hb⟩
  have HB2 := Lib.hid (below_keep HB.out hb)
  clear hb CO
  go_wp2
  go_loopw [8, 9] (fun nv iv wr => ∃ (i : Nat) (n V : Int), i ≤ d.length ∧ nv = .int .i64 n ∧ iv = .int .i64 (i : Nat) ∧ Hid (0 ≤ n ∧ n < V ∧ 1 ≤ V ∧ V ≤ 4611686018427387904 ∧ volL V (d.drop i) = some m ∧ idxL n (d.drop i) (c.drop i) = R) ∧ Below w.heap.size w wr) (fun _ iv _ => d.length - (intOf iv).toNat)
  case atStart => exact ⟨0, 0, 1, Nat.zero_le _, rfl, rfl, ⟨by omega, by omega, by omega, by omega, HM.out, HR0.out.symm⟩, HB2.out⟩
  case round =>
    obtain ⟨i, n, V, hi, rfl, rfl, HN, hb⟩ := hrel
    have HBR := Lib.hid hb
    have HDW := Lib.hid (HD.out.later DimR.lasts hb)
    have HCW := Lib.hid (HC.out.later IntR.lasts hb)
    clear hb
    by_cases hlt : i < d.length
    · obtain ⟨g, o, x, ea, hx, hr⟩ := HDW.out.at i hlt
      obtain ⟨g', o', y, ea', hy, hr'⟩ := HCW.out.at i (by rw [HL.out]; exact hlt)
      subst ea ea'
      obtain ⟨x0, x1, x2⟩ := hr
      rw [Nat.mul_one] at hr'
      unfold IntR at hr'
      obtain ⟨n0, n1, v1, v2, hv, hn⟩ := HN.out
      rw [idxL_at hx hy] at hn
      rw [volL_at hx] at hv
      have gx := HG.out x (List.mem_of_getElem? hx)
      have CE := Lib.hid (fun w1 => extent_any x gx w1)
      have ge := gx.ext
      obtain ⟨q1, q2⟩ := ofL_good HO.out hx hy
      rw [last_hi gx.hi] at q2
      have g1 := gx.lo
      have g2 := gx.le
      have g3 := gx.hi
      have hEx : ext x = x.hi - x.lo + 1 := rfl
      obtain ⟨E, hE⟩ : ∃ E, E = ext x := ⟨_, rfl⟩
      rw [← hE] at hn hv CE ge hEx
      have hlo : ¬ 4611686018427387904 / E < V := fun h => by rw [if_pos h] at hv; cases hv
      rw [if_neg hlo] at hv
      have hvs := vol_step v1 ge.1 hlo
      obtain ⟨k, hk⟩ : ∃ k, k = y - x.lo := ⟨_, rfl⟩
      have his := idx_step n0 n1 ge.1 (show 0 ≤ k by omega) (show k < E by omega) hvs.2
      obtain ⟨nm, lo, hi'⟩ := x
      simp only at x0 x1 x2 CE hEx hk q1 q2 g1 g2 g3 hn
      rw [← hk] at hn
      obtain ⟨Pq, hP⟩ : ∃ Pq, Pq = n * E := ⟨_, rfl⟩
      rw [← hP] at hn his
      have w1 : IntKind.i64.wrap (hi' - lo) = hi' - lo := IntWalk.i64_in _ (by omega)
      have w2 : IntKind.i64.wrap (hi' - lo + 1) = E := by rw [hEx]; exact IntWalk.i64_in _ (by omega)
      have w3 : IntKind.i64.wrap (n * E) = Pq := by rw [← hP]; exact IntWalk.i64_in _ (by omega)
      have w4 : IntKind.i64.wrap (Pq + y) = Pq + y := IntWalk.i64_in _ (by omega)
      obtain ⟨M, hM⟩ : ∃ M, M = Pq + k := ⟨_, rfl⟩
      have w5 : IntKind.i64.wrap (Pq + y - lo) = M := by rw [hM, hk, show Pq + (y - lo) = Pq + y - lo by omega]; exact IntWalk.i64_in _ (by omega)
      rw [← hM] at hn his
      have HS : Hid (0 ≤ M ∧ M < V * E ∧ 1 ≤ V * E ∧ V * E ≤ 4611686018427387904 ∧ volL (V * E) (d.drop (i + 1)) = some m ∧ idxL M (d.drop (i + 1)) (c.drop (i + 1)) = R) := ⟨his.2.2.1, his.2.1, hvs.1, hvs.2, hv, hn⟩
      have HI1 : Hid (i + 1 ≤ d.length) := hlt
      have HI2 : Hid (d.length - (i + 1) < d.length - i) := by show _ < _; omega
      have ib0 : (0 : Int) ≤ (i : Int) := by omega
      have ib1 : (i : Int) < (d.length : Int) := by omega
      clear hx hy hn hv HN gx hE hEx hP hM hk hvs his hlo ge n0 n1 v1 v2 q1 q2 g1 g2 g3
      have K : Hid (∀ w', Below wr.heap.size wr w' → w'.cell? ⟨g, o + i * 3 + 1, none⟩ = some (.int .i64 lo) ∧ w'.cell? ⟨g, o + i * 3 + 2, none⟩ = some (.int .i64 hi')) := fun w' h => ⟨cell_later x1 h, cell_later x2 h⟩
      clear x0
      go_wp2_with fail
      go_quiet (fail)
      have HBE := Lib.hid (below_keep HBR.out (below_drewN' wr nq))
      clear w1 w2 w3 w4 w5
      go_wp2
      exact ⟨⟨i + 1, M, V * E, HI1.out, rfl, by go_num, HS.out, HBE.out⟩, HI2.out⟩
    · obtain rfl : i = d.length := by omega
      have hn := HN.out.2.2.2.2.2
      rw [List.drop_length, idxL] at hn
      · have HNN := Lib.hid hn
        clear hn HN
        go_wp2
        go_ret2
        rw [← HNN.out]
        exact ⟨rfl, HBR.out⟩
      · intro _ _ _ _ h; cases h
theorem rindex_any (d : List DimT) (c : List Int) (v u : Value) (w : World) (hd : Dims w v d) (hc : Ints w u c) (hs : StrD d) :
    Calls Tryz.prog 64 #[v, u] w (RetII (idxQ d c) (idxE d c) w) := by
  unfold idxQ idxE
  by_cases h : volE d = 0
  · rw [if_neg (show ¬ (volE d ≠ 0) from fun h' => h' h)]
    by_cases h2 : c.length = d.length
    · rw [if_neg (show ¬ (c.length ≠ d.length) from fun h' => h' h2)]
      cases h3 : ofL d c with
      | false => exact rindex_range d c v u w hd hc hs h h2 h3
      | true => exact rindex_core d c v u w hd hc hs h h2 h3
    · rw [if_pos h2, if_neg (by decide)]
      exact rindex_shape d c v u w hd hc hs h h2
  · rw [if_pos h, if_neg h]
    exact rindex_bad d c v u w hd hc hs h
end Go.Proofs.YtpdhlgkcjakcgaaGreatDoor
