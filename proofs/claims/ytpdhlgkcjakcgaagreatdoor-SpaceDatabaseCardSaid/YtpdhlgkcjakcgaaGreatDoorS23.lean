/- Lemmas and contracts, each under its own condition: Copies of lists of dimensions, attributes and values: append([]T{}, l...). Where a cell lies among others: the reference's place, slices.BinarySearchFunc of space.Get: contracts. space.Get and the reference's: contracts. Copies: slices.Clone of dimensions, attributes, values, integers. -/
import Derived.Deep.AppendLies
import Derived.IntWalk
import Derived.BigQuiet
import Derived.Lib.SliceRun
import Derived.Lib.AppendZeros
import Derived.Test.YtpdhlgkcjakcgaaGreatDoorS17
import Derived.Test.YtpdhlgkcjakcgaaGreatDoorS19
import Derived.Test.YtpdhlgkcjakcgaaGreatDoorS5
import Derived.Test.YtpdhlgkcjakcgaaGreatDoorS9
/- Copies of lists of dimensions, attributes and values: append([]T{}, l...). -/
namespace Go.Proofs.YtpdhlgkcjakcgaaGreatDoor
open Go.RowKit

/-- readings that are lists of k cells -/
structure Cellw {α : Type} (k : Nat) (f : α → List Value) (Rd : World → Nat → Nat → α → Prop) : Prop where
  pos : 0 < k
  len : ∀ x, (f x).length = k
  one : ∀ x, ∀ u ∈ f x, u.oneCell' = true
  rd : ∀ w g o x, Rd w g o x → ∀ t u, (f x)[t]? = some u → w.cell? ⟨g, o + t, none⟩ = some u
  mkR : ∀ w g o x, (∀ t u, (f x)[t]? = some u → w.cell? ⟨g, o + t, none⟩ = some u) → Rd w g o x
theorem flat_len {α : Type} {k : Nat} {f : α → List Value} (h : ∀ x, (f x).length = k) (l : List α) : (l.flatMap f).length = l.length * k := by
  induction l with
  | nil => simp
  | cons x l ih => rw [List.flatMap_cons, List.length_append, ih, h, List.length_cons, Nat.add_mul]; omega
theorem flat_get {α : Type} {k : Nat} {f : α → List Value} (h : ∀ x, (f x).length = k) : ∀ (l : List α) (j : Nat) (u : Value), (l.flatMap f)[j]? = some u → ∃ i x t, l[i]? = some x ∧ (f x)[t]? = some u ∧ j = i * k + t
  | [], j, u, hj => by simp at hj
  | x :: l, j, u, hj => by
    rw [List.flatMap_cons] at hj
    by_cases hlt : j < k
    · rw [List.getElem?_append_left (by rw [h]; exact hlt)] at hj
      exact ⟨0, x, j, rfl, hj, by omega⟩
    · rw [List.getElem?_append_right (by rw [h]; omega), h] at hj
      obtain ⟨i, y, t, h1, h2, h3⟩ := flat_get h l (j - k) u hj
      exact ⟨i + 1, y, t, by simpa using h1, h2, by rw [Nat.add_mul]; omega⟩
theorem flat_at {α : Type} {k : Nat} {f : α → List Value} (h : ∀ x, (f x).length = k) : ∀ (l : List α) (i : Nat) (x : α) (t : Nat) (u : Value), l[i]? = some x → (f x)[t]? = some u → (l.flatMap f)[i * k + t]? = some u
  | [], i, x, t, u, h1, _ => by simp at h1
  | y :: l, 0, x, t, u, h1, h2 => by
    simp at h1
    subst h1
    have ht : t < k := by rw [← h y]; exact (List.getElem?_eq_some_iff.1 h2).1
    rw [List.flatMap_cons, Nat.zero_mul, Nat.zero_add, List.getElem?_append_left (by rw [h]; exact ht)]
    exact h2
  | y :: l, i + 1, x, t, u, h1, h2 => by
    rw [List.flatMap_cons, List.getElem?_append_right (by rw [h, Nat.add_mul]; omega), h, show (i + 1) * k + t - k = i * k + t from by rw [Nat.add_mul]; omega]
    exact flat_at h l i x t u (by simpa using h1) h2
/-- a list that lies, as cells -/
theorem Ls.cells {α : Type} {k : Nat} {f : α → List Value} {Rd : World → Nat → Nat → α → Prop} (hc : Cellw k f Rd) {w : World} {g o n cap : Nat} {l : List α} (h : Ls k Rd w (.slice (some ⟨g, o, none⟩) n cap) l) :
    ∀ j u, (l.flatMap f)[j]? = some u → w.cell? ((⟨g, o, none⟩ : Addr).add j) = some u := by
  intro j u hj
  obtain ⟨i, x, t, h1, h2, rfl⟩ := flat_get hc.len l j u hj
  obtain ⟨g', o', y, e, hy, hr⟩ := h.at i (List.getElem?_eq_some_iff.1 h1).1
  rw [h1] at hy
  cases hy
  cases e
  have := hc.rd _ _ _ _ hr t u h2
  rw [show (⟨g, o, none⟩ : Addr).add (i * k + t) = ⟨g, o + (i * k + t), none⟩ from by unfold Addr.add; split <;> simp_all, ← Nat.add_assoc]
  exact this
/-- a row that is owned, as a list -/
theorem Ls.owned {α : Type} {k : Nat} {f : α → List Value} {Rd : World → Nat → Nat → α → Prop} (hc : Cellw k f Rd) {w : World} {base b n cap : Nat} {e : TypeId} {l : List α} (h : w.ownsRow base e k (.slice (some ⟨b, 0, none⟩) n cap) n (l.flatMap f)) (hn : l.length = n) :
    Ls k Rd w (.slice (some ⟨b, 0, none⟩) n cap) l := by
  obtain ⟨-, h | ⟨g, c, cur, hv, hb, hh, hnc, hcm, hs, ht⟩⟩ := h
  · cases h.1
  · injection hv with e1 e2 e3
    injection e1 with e4
    injection e4 with e5
    subst e3 e5 hn
    unfold maxLen at hcm
    refine ⟨_, cap, rfl, hnc, hcm, fun _ => ⟨b, 0, rfl, fun i x hx => hc.mkR _ _ _ _ fun t u hu => ?_⟩⟩
    have hf := flat_at hc.len l i x t u hx hu
    have hj : i * k + t < l.length * k := by rw [← flat_len hc.len]; exact (List.getElem?_eq_some_iff.1 hf).1
    rw [← ht, List.getElem?_take_of_lt hj] at hf
    rw [Nat.zero_add, cell_of_row w b (i * k + t) cur e (0, 0) hh]
    simpa using hf
/-- a copy -/
theorem run_copy {α : Type} {k : Nat} {f : α → List Value} {Rd : World → Nat → Nat → α → Prop} (hc : Cellw k f Rd) (hR : Lasts Rd) {T E : TypeId} (ht : Tryz.prog.underlying T = some (.slice E)) {z : Value} {bytes : Nat}
    (hinfo : (Tryz.prog.info? E).map (fun i => (i.zero, i.size, i.bytes)) = some (some z, k, bytes)) (hz : z.cells.size = k) (ty : TypeId) (w : World) (v : Value) (l : List α) (h : Ls k Rd w v l) (hl : 0 < l.length) (hb : l.length * bytes ≤ 140737488355328) (hl9 : l.length ≤ 1000000) :
    ∃ g cap w', (Builtin.append_ #[T, T] ty #[.slice (some ⟨w.heap.size, 0, none⟩) 0 0, v]).run Tryz.prog (w.alloc (.cells #[] E)) = .ok (.slice (some ⟨g, 0, none⟩) l.length cap) w' ∧ Ls k Rd w' (.slice (some ⟨g, 0, none⟩) l.length cap) l ∧ TagB w' g E ∧ Below w.heap.size w w' := by
  obtain ⟨i0, hi0, hz0, hz1, hz2⟩ := info_parts hinfo
  obtain ⟨a, cap, rfl, hlc, hcm, hx⟩ := id h
  obtain ⟨g, o, rfl, -⟩ := hx hl
  have hba : Below w.heap.size w (w.alloc (.cells #[] E)) := below_alloc _ _
  obtain ⟨g1, cp1, w', hrun, hown, hgr, hat, hlt⟩ := run_append_lies (P := Tryz.prog) (w.alloc (.cells #[] E)) T ty w.heap.size E i0 z k bytes ht hi0 hz0 hz1 hz2 hz hc.pos (.slice (some ⟨w.heap.size, 0, none⟩) 0 0) 0 [] (World.ownsRow_made w #[] 0 (Nat.le_refl _) (by decide) (by simp)) ⟨g, o, none⟩ l.length cap (l.flatMap f) (flat_len hc.len l) ((h.later hR hba).cells hc) (fun u hu => by
    obtain ⟨x, -, hx⟩ := List.mem_flatMap.1 hu
    exact hc.one x u hx) hl (by unfold maxLen; omega) (by simpa using hb) (by simp) _ rfl
  rw [Nat.zero_add] at hrun hown
  rw [List.nil_append] at hown
  refine ⟨g1, cp1, w', hrun, Ls.owned hc hown rfl, ownsRow_tag hown g1 rfl, hba.grown hgr (by simp) (fun j hj => ?_)⟩
  simp only [Value.ownBlock, Option.some.injEq] at hj
  omega
end Go.Proofs.YtpdhlgkcjakcgaaGreatDoor
/- Where a cell lies among others: the reference's place, slices.BinarySearchFunc of space.Get: contracts. -/
namespace Go.Proofs.YtpdhlgkcjakcgaaGreatDoor
open Go.RowKit

def coAt (l : List CellT) (m : Nat) : List Int := (l.getD m ⟨[], []⟩).co
theorem coAt_get {l : List CellT} {m : Nat} {c : CellT} (h : l[m]? = some c) : coAt l m = c.co := by unfold coAt; rw [List.getD_eq_getElem?_getD, h]; rfl
def bisL (l : List CellT) (c : List Int) : Nat → Nat → Nat → Nat
  | 0, lo, _ => lo
  | f + 1, lo, hi => if lo < hi then (if cmpI (coAt l ((lo + hi) / 2)) c < 0 then bisL l c f ((lo + hi) / 2 + 1) hi else bisL l c f lo ((lo + hi) / 2)) else lo
def placeN (l : List CellT) (c : List Int) : Nat := bisL l c l.length 0 l.length
theorem bisL_end (l : List CellT) (c : List Int) (f lo hi : Nat) (h : ¬ lo < hi) : bisL l c f lo hi = lo := by
  cases f with
  | zero => rfl
  | succ f => rw [bisL, if_neg h]
/-- one round: the middle, and what stands behind it -/
theorem bisL_step {l : List CellT} {c : List Int} {f lo hi R : Nat} (h : bisL l c f lo hi = R) (hf : hi - lo ≤ f) (hlt : lo < hi) : ∃ m f', lo ≤ m ∧ m < hi ∧ ((lo : Int) + hi) / 2 = (m : Int) ∧ hi - (m + 1) ≤ f' ∧ m - lo ≤ f' ∧
    (cmpI (coAt l m) c < 0 → bisL l c f' (m + 1) hi = R) ∧ (¬ cmpI (coAt l m) c < 0 → bisL l c f' lo m = R) := by
  obtain ⟨f, rfl⟩ : ∃ g, f = g + 1 := ⟨f - 1, by omega⟩
  rw [bisL, if_pos hlt] at h
  refine ⟨(lo + hi) / 2, f, by omega, by omega, by omega, by omega, by omega, fun hc => ?_, fun hc => ?_⟩
  · rw [if_pos hc] at h; exact h
  · rw [if_neg hc] at h; exact h
theorem bisL_le {l : List CellT} {c : List Int} : ∀ f lo hi, lo ≤ hi → bisL l c f lo hi ≤ hi
  | 0, lo, hi, h => h
  | f + 1, lo, hi, h => by
    rw [bisL]
    split
    · split
      · exact bisL_le f _ _ (by omega)
      · exact Nat.le_trans (bisL_le f _ _ (by omega)) (by omega)
    · exact h
theorem placeN_le (l : List CellT) (c : List Int) : placeN l c ≤ l.length := bisL_le _ _ _ (Nat.zero_le _)
set_option maxHeartbeats 3200000 in
set_option maxRecDepth 100000 in
theorem place_any (l : List CellT) (c : List Int) (v u : Value) (w : World) (hl : CellsA w v l) (hc : Ints w u c) (h9 : l.length ≤ 1000000000) :
    Calls Tryz.prog 139 #[v, u] w (RetV' (.int .i64 (placeN l c : Nat)) w) := by
  have HL := Lib.hid hl
  have HC := Lib.hid hc
  obtain ⟨a, cap, rfl, k1, k2⟩ := hl.shape
  obtain ⟨a', cap', rfl, k1', k2'⟩ := hc.shape
  obtain ⟨R, hR⟩ : ∃ R, R = placeN l c := ⟨_, rfl⟩
  rw [← hR]
  have HR := Lib.hid hR
  clear hl hc hR
  go_enter Tryz.func139, Tryz.ntmps139
  go_wp2
  go_loopw [5, 6] (fun lv hv wr => ∃ lo hi f : Nat, lo ≤ hi ∧ hi ≤ l.length ∧ lv = .int .i64 (lo : Nat) ∧ hv = .int .i64 (hi : Nat) ∧ Hid (hi - lo ≤ f) ∧ Hid (bisL l c f lo hi = R) ∧ Below w.heap.size w wr) (fun lv hv _ => (intOf hv).toNat - (intOf lv).toNat)
  case atStart => exact ⟨0, l.length, l.length, Nat.zero_le _, Nat.le_refl _, rfl, rfl, by show _ ≤ _; omega, HR.out.symm, Below.refl _ _⟩
  case round =>
    obtain ⟨lo, hi, f, h1, h2, rfl, rfl, HF, HN, hbw⟩ := hrel
    have HBW := Lib.hid hbw
    have HLW := Lib.hid (HL.out.later CellR.lasts hbw)
    have HCW := Lib.hid (HC.out.later IntR.lasts hbw)
    clear hbw
    by_cases hlt : lo < hi
    · obtain ⟨m, f', m1, m2, m3, m4, m5, s1, s2⟩ := bisL_step HN.out HF.out hlt
      obtain ⟨g, o, x, ea, hx, hr⟩ := HLW.out.at m (by omega)
      subst ea
      obtain ⟨v1, v2, x0, x1, hco, hva⟩ := hr.ex
      rw [coAt_get hx] at s1 s2
      have S1 := Lib.hid s1
      have S2 := Lib.hid s2
      have HFN : Hid (hi - (m + 1) ≤ f') := m4
      have HFM : Hid (m - lo ≤ f') := m5
      have CC := Lib.hid (rcompare_any x.co c v1 _ wr hco HCW.out)
      obtain ⟨q1, kp1, rfl, -, -⟩ := hco.shape
      have HM : Hid (lo ≤ m ∧ m < hi ∧ hi ≤ l.length) := ⟨m1, m2, h2⟩
      have mb0 : (0 : Int) ≤ (m : Int) := by omega
      have mb1 : (m : Int) < (l.length : Int) := by omega
      have hdd : IntKind.i64.wrap (((lo : Int) + hi).tdiv 2) = (m : Int) := by
        rw [Int.tdiv_eq_ediv_of_nonneg (by omega), m3]; exact IntWalk.i64_in _ (by omega)
      have hd2 : ((lo : Int) + hi).tdiv 2 = (m : Int) := by
        rw [Int.tdiv_eq_ediv_of_nonneg (by omega), m3]
      have hd3 : IntKind.i64.wrap ((lo : Int) + hi) = (lo : Int) + hi := IntWalk.i64_in _ (by omega)
      generalize cmpI x.co c = q at CC S1 S2
      clear hr hx hco hva s1 s2 m3 m4 m5 m1 m2
      go_wp2_with fail
      refine CC.out.mono ?_
      rintro e w2 ⟨rfl, hb⟩
      have HB2 := Lib.hid (HBW.out.trans (hb.mono HBW.out.size))
      clear hb CC hdd hd2 hd3
      by_cases hq : q < 0
      · have HRR := Lib.hid (S1.out (by omega))
        have t1 : decide (q < 0) = true := decide_eq_true hq
        clear hq
        go_wp2
        refine ⟨⟨m + 1, hi, f', HM.out.2.1, HM.out.2.2, by go_num, rfl, HFN.out, HRR.out, HB2.out⟩, ?_⟩
        have := HM.out
        show (intOf _).toNat - _ < _ - _
        simp [intOf]; omega
      · have HRR := Lib.hid (S2.out (by omega))
        have t1 : decide (q < 0) = false := decide_eq_false hq
        clear hq
        go_wp2
        refine ⟨⟨lo, m, f', HM.out.1, by have := HM.out; omega, rfl, rfl, HFM.out, HRR.out, HB2.out⟩, ?_⟩
        have := HM.out
        show (intOf _).toNat - _ < _ - _
        simp [intOf]; omega
    · obtain rfl : lo = hi := by omega
      have hn := bisL_end l c f lo lo (Nat.lt_irrefl _)
      have HRR : Hid (R = lo) := by show _ = _; rw [← HN.out, hn]
      clear hn
      go_wp2
      go_ret
      rw [HRR.out]
      exact ⟨rfl, HBW.out⟩
def foundB (l : List CellT) (c : List Int) : Bool := decide (placeN l c < l.length) && decide (cmpI (coAt l (placeN l c)) c = 0)
/-- the closure of Get -/
theorem get1_any (c : CellT) (k : List Int) (v1 v2 u : Value) (w : World) (h1 : Ints w v1 c.co) (h2 : Vals w v2 c.vals) (hk : Ints w u k) :
    Calls Tryz.prog 109 #[.agg #[v1, v2], u] w (RetV' (.int .i64 (cmpI c.co k)) w) := by
  have C := Lib.hid (fun w1 (hb : Below w.heap.size w w1) => compare_any c.co k v1 u w1 (h1.later IntR.lasts hb) (hk.later IntR.lasts hb))
  obtain ⟨q1, kp1, rfl, -, -⟩ := h1.shape
  obtain ⟨q2, kp2, rfl, -, -⟩ := h2.shape
  obtain ⟨q3, kp3, rfl, -, -⟩ := hk.shape
  clear h1 h2 hk
  go_enter Tryz.func109, Tryz.ntmps109
  go_wp2_with fail
  refine (C.out _ (below_alloc _ _)).mono ?_
  rintro e w1 ⟨rfl, rfl⟩
  go_wp2
  go_ret
  exact ⟨rfl, below_alloc _ _⟩
set_option maxHeartbeats 3200000 in
set_option maxRecDepth 100000 in
theorem search_any (l : List CellT) (c : List Int) (v u : Value) (w : World) (hl : CellsA w v l) (hc : Ints w u c) (h9 : l.length ≤ 1000000000) :
    Calls Tryz.prog 108 #[v, u, .func (.func 109) #[] #[]] w (RetV' (.tuple #[.int .i64 (placeN l c : Nat), .bool (foundB l c)]) w) := by
  have HL := Lib.hid hl
  have HC := Lib.hid hc
  obtain ⟨a, cap, rfl, k1, k2⟩ := hl.shape
  obtain ⟨a', cap', rfl, k1', k2'⟩ := hc.shape
  obtain ⟨FB, hFB⟩ : ∃ FB, FB = foundB l c := ⟨_, rfl⟩
  obtain ⟨R, hR⟩ : ∃ R, R = placeN l c := ⟨_, rfl⟩
  have hF2 : FB = (decide (R < l.length) && decide (cmpI (coAt l R) c = 0)) := by rw [hFB, hR]; rfl
  rw [← hR, ← hFB]
  have HR := Lib.hid hR
  have HFB := Lib.hid hF2
  clear hl hc hR hFB hF2
  go_enter Tryz.func108, Tryz.ntmps108
  go_wp2
  go_loopw [9, 10] (fun lv hv wr => ∃ lo hi f : Nat, lo ≤ hi ∧ hi ≤ l.length ∧ lv = .int .i64 (lo : Nat) ∧ hv = .int .i64 (hi : Nat) ∧ Hid (hi - lo ≤ f) ∧ Hid (bisL l c f lo hi = R) ∧ Below w.heap.size w wr) (fun lv hv _ => (intOf hv).toNat - (intOf lv).toNat)
  case atStart => exact ⟨0, l.length, l.length, Nat.zero_le _, Nat.le_refl _, rfl, rfl, by show _ ≤ _; omega, HR.out.symm, Below.refl _ _⟩
  case round =>
    obtain ⟨lo, hi, f, h1, h2, rfl, rfl, HF, HN, hbw⟩ := hrel
    have HBW := Lib.hid hbw
    have HLW := Lib.hid (HL.out.later CellR.lasts hbw)
    have HCW := Lib.hid (HC.out.later IntR.lasts hbw)
    clear hbw
    by_cases hlt : lo < hi
    · obtain ⟨m, f', m1, m2, m3, m4, m5, s1, s2⟩ := bisL_step HN.out HF.out hlt
      obtain ⟨g, o, x, ea, hx, hr⟩ := HLW.out.at m (by omega)
      subst ea
      obtain ⟨v1, v2, x0, x1, hco, hva⟩ := hr.ex
      rw [coAt_get hx] at s1 s2
      have S1 := Lib.hid s1
      have S2 := Lib.hid s2
      have HFN : Hid (hi - (m + 1) ≤ f') := m4
      have HFM : Hid (m - lo ≤ f') := m5
      have CC := Lib.hid (get1_any x c v1 v2 _ wr hco hva HCW.out)
      obtain ⟨q1, kp1, rfl, -, -⟩ := hco.shape
      obtain ⟨q2, kp2, rfl, -, -⟩ := hva.shape
      have HM : Hid (lo ≤ m ∧ m < hi ∧ hi ≤ l.length) := ⟨m1, m2, h2⟩
      have mb0 : (0 : Int) ≤ (m : Int) := by omega
      have mb1 : (m : Int) < (l.length : Int) := by omega
      have hd3 : IntKind.i64.wrap ((lo : Int) + hi) = (lo : Int) + hi := IntWalk.i64_in _ (by omega)
      have hd4 : IntKind.u64.wrap ((lo : Int) + hi) = (lo : Int) + hi := by rw [IntKind.wrap_u64]; omega
      generalize hq9 : cmpI x.co c = q at CC S1 S2
      have M3 := Lib.hid m3
      clear hr hx hco hva s1 s2 m3 m4 m5 m1 m2 hq9
      go_upto_region 5 with (fail)
      rw [M3.out]
      go_wp2_with fail
      refine CC.out.mono ?_
      rintro e w2 ⟨rfl, hb⟩
      have HB2 := Lib.hid (HBW.out.trans (hb.mono HBW.out.size))
      clear hb CC hd3 hd4
      by_cases hq : q < 0
      · have HRR := Lib.hid (S1.out (by omega))
        have t1 : decide (q < 0) = true := decide_eq_true hq
        clear hq
        go_wp2
        refine ⟨⟨m + 1, hi, f', HM.out.2.1, HM.out.2.2, by go_num, rfl, HFN.out, HRR.out, HB2.out⟩, ?_⟩
        have := HM.out
        show (intOf _).toNat - _ < _ - _
        simp [intOf]; omega
      · have HRR := Lib.hid (S2.out (by omega))
        have t1 : decide (q < 0) = false := decide_eq_false hq
        clear hq
        go_wp2
        refine ⟨⟨lo, m, f', HM.out.1, by have := HM.out; omega, rfl, rfl, HFM.out, HRR.out, HB2.out⟩, ?_⟩
        have := HM.out
        show (intOf _).toNat - _ < _ - _
        simp [intOf]; omega
    · obtain rfl : lo = hi := by omega
      have hn := bisL_end l c f lo lo (Nat.lt_irrefl _)
      have HRR : Hid (R = lo) := by show _ = _; rw [← HN.out, hn]
      clear hn
      by_cases hlt2 : lo < l.length
      · obtain ⟨g, o, x, ea, hx, hr⟩ := HLW.out.at lo hlt2
        subst ea
        obtain ⟨v1, v2, x0, x1, hco, hva⟩ := hr.ex
        have CC := Lib.hid (get1_any x c v1 v2 _ wr hco hva HCW.out)
        obtain ⟨q1, kp1, rfl, -, -⟩ := hco.shape
        obtain ⟨q2, kp2, rfl, -, -⟩ := hva.shape
        have mb0 : (0 : Int) ≤ (lo : Int) := by omega
        have mb1 : (lo : Int) < (l.length : Int) := by omega
        obtain ⟨q, hq⟩ : ∃ q, q = cmpI x.co c := ⟨_, rfl⟩
        have HQ : Hid (FB = (q == 0)) := by
          show _ = _
          rw [HFB.out, HRR.out, decide_eq_true hlt2, Bool.true_and, coAt_get hx, ← hq]
          rfl
        rw [← hq] at CC
        clear hr hx hco hva hq
        go_wp2_with fail
        refine CC.out.mono ?_
        rintro e w2 ⟨rfl, hb⟩
        have HB2 := Lib.hid (HBW.out.trans (hb.mono HBW.out.size))
        clear hb CC
        go_wp2
        go_ret2
        rw [HQ.out, HRR.out]
        exact ⟨rfl, HB2.out⟩
      · have HQ : Hid (FB = false) := by
          show _ = _
          rw [HFB.out, HRR.out, decide_eq_false hlt2, Bool.false_and]
        have t1 : ¬ (lo : Int) < (l.length : Int) := by omega
        clear hlt2
        go_wp2
        go_ret2
        rw [HQ.out, HRR.out]
        exact ⟨rfl, HBW.out⟩
end Go.Proofs.YtpdhlgkcjakcgaaGreatDoor
/- space.Get and the reference's: contracts. -/
namespace Go.Proofs.YtpdhlgkcjakcgaaGreatDoor
open Go.RowKit

def vcells (x : Va) : List Value := [.int .i64 x.kind, .int .i64 x.num, .int .i64 x.den, .string ⟨x.str.toArray⟩]
theorem cellw_val : Cellw 4 vcells ValR where
  pos := by decide
  len _ := rfl
  one x u hu := by
    simp only [vcells, List.mem_cons, List.not_mem_nil, or_false] at hu
    rcases hu with rfl | rfl | rfl | rfl <;> rfl
  rd w g o x h t u hu := by
    match t, hu with
    | 0, hu => cases hu; exact h.kind
    | 1, hu => cases hu; exact h.num
    | 2, hu => cases hu; exact h.den
    | 3, hu => cases hu; exact h.str
    | n + 4, hu => simp [vcells] at hu
  mkR w g o x h := ⟨h 0 _ rfl, h 1 _ rfl, h 2 _ rfl, h 3 _ rfl⟩
theorem infoVal : (Tryz.prog.info? 126).map (fun i => (i.zero, i.size, i.bytes)) = some (some (.agg #[.int .i64 0, .int .i64 0, .int .i64 0, .string ⟨#[]⟩]), 4, 40) := by kernel_rfl
theorem copy_vals (ty : TypeId) (w : World) (v : Value) (l : List Va) (h : Vals w v l) (hl : 0 < l.length) (hl9 : l.length ≤ 1000000) :
    ∃ g cap w', (Builtin.append_ #[73, 73] ty #[.slice (some ⟨w.heap.size, 0, none⟩) 0 0, v]).run Tryz.prog (w.alloc (.cells #[] 126)) = .ok (.slice (some ⟨g, 0, none⟩) l.length cap) w' ∧ Vals w' (.slice (some ⟨g, 0, none⟩) l.length cap) l ∧ TagB w' g 126 ∧ Below w.heap.size w w' :=
  run_copy cellw_val ValR.lasts Tryz.underlying73 infoVal rfl ty w v l h hl (by omega) hl9
def RetCp (l : List Va) (w : World) (e : Ending) (w' : World) : Prop := ∃ v, e = .returned v ∧ Vals w' v l ∧ Below w.heap.size w w'
set_option maxRecDepth 100000 in
theorem cloneV_any (l : List Va) (v : Value) (w : World) (h : Vals w v l) (hl9 : l.length ≤ 1000000) :
    Calls Tryz.prog 110 #[v] w (RetCp l w) := by
  obtain ⟨a, cap, rfl, k1, k2⟩ := h.shape
  have q22 : ∀ (w : World) (a : Option Addr) (n c n' c' : Nat), (binOp .eql 73 (.slice a n c) (.slice none n' c')).run Tryz.prog w = .ok (.bool a.isNone) w := fun w a n c n' c' => Lib.run_eql_slice_nil w _ 126 a n c n' c' Tryz.underlying73
  cases a with
  | none =>
    have hl0 : l = [] := by
      rcases Nat.eq_zero_or_pos l.length with h0 | h0
      · exact List.length_eq_zero_iff.1 h0
      · obtain ⟨g, o, x, e, -⟩ := h.at 0 h0
        cases e
    subst hl0
    clear h hl9 k1
    go_enter Tryz.func110, Tryz.ntmps110
    go_wp2
    go_ret
    exact ⟨_, rfl, Ls.nil _ _ _ (by omega), Below.refl _ _⟩
  | some ad =>
    by_cases h0 : l.length = 0
    · obtain rfl : l = [] := List.length_eq_zero_iff.1 h0
      clear h hl9 k1 h0
      go_enter Tryz.func110, Tryz.ntmps110
      go_wp2
      go_ret
      exact ⟨_, rfl, Ls.nil _ _ _ (by omega), below_alloc _ _⟩
    · obtain ⟨g, cp, w', hrun, hv, -, hb⟩ := copy_vals 73 w _ l h (by omega) hl9
      have HV := Lib.hid hv
      have HB := Lib.hid hb
      have HRUN := Lib.hid hrun
      clear h hl9 hv hb hrun
      go_enter Tryz.func110, Tryz.ntmps110
      go_wp2_with (at_builtin; refine Lib.wpList_append_run _ rfl _ _ _ _ rfl _ _ rfl rfl _ _ HRUN.out ?_)
      go_wp2
      go_ret
      exact ⟨_, rfl, HV.out, HB.out⟩
def lookN (l : List CellT) (c : List Int) : Int := if foundB l c = true then (placeN l c : Int) else -1
set_option maxHeartbeats 1600000 in
set_option maxRecDepth 100000 in
theorem lookup_any (l : List CellT) (c : List Int) (v u : Value) (w : World) (hl : CellsA w v l) (hc : Ints w u c) (h9 : l.length ≤ 1000000000) :
    Calls Tryz.prog 111 #[v, u] w (RetV' (.int .i64 (lookN l c)) w) := by
  have CP := Lib.hid (place_any l c v u w hl hc h9)
  have HL := Lib.hid hl
  have HC := Lib.hid hc
  obtain ⟨a, cap, rfl, k1, k2⟩ := hl.shape
  obtain ⟨a', cap', rfl, k1', k2'⟩ := hc.shape
  have hle := placeN_le l c
  obtain ⟨R, hR⟩ : ∃ R, R = placeN l c := ⟨_, rfl⟩
  obtain ⟨Z, hZ⟩ : ∃ Z, Z = lookN l c := ⟨_, rfl⟩
  have hZ2 : Z = if (decide (R < l.length) && decide (cmpI (coAt l R) c = 0)) = true then (R : Int) else -1 := by rw [hZ, hR]; rfl
  rw [← hZ]
  rw [← hR] at CP hle
  have HZ := Lib.hid hZ2
  clear hl hc hR hZ hZ2
  by_cases hlt : R < l.length
  · have HLT := Lib.hid hlt
    go_enter Tryz.func111, Tryz.ntmps111
    go_wp2_with fail
    refine CP.out.mono ?_
    rintro e w1 ⟨rfl, hb⟩
    have HB1 := Lib.hid hb
    obtain ⟨g, o, x, ea, hx, hr⟩ := (HL.out.later CellR.lasts hb).at R hlt
    subst ea
    obtain ⟨v1, v2, x0, x1, hco, hva⟩ := hr.ex
    have CC := Lib.hid (rcompare_any x.co c v1 _ w1 hco (HC.out.later IntR.lasts hb))
    obtain ⟨q1, kp1, rfl, -, -⟩ := hco.shape
    have mb0 : (0 : Int) ≤ (R : Int) := by omega
    have mb1 : (R : Int) < (l.length : Int) := by omega
    obtain ⟨q, hq⟩ : ∃ q, q = cmpI x.co c := ⟨_, rfl⟩
    have HQ : Hid (Z = if q = 0 then (R : Int) else -1) := by
      show _ = _
      rw [HZ.out, decide_eq_true hlt, Bool.true_and, coAt_get hx, ← hq]
      by_cases h0 : q = 0
      · rw [if_pos h0, if_pos (decide_eq_true h0)]
      · rw [if_neg h0, if_neg (by rw [decide_eq_false h0]; decide)]
    rw [← hq] at CC
    clear hr hx hco hva hq hb hlt
    go_wp2_with fail
    refine CC.out.mono ?_
    rintro e w2 ⟨rfl, hb⟩
    have HB2 := Lib.hid (HB1.out.trans (hb.mono HB1.out.size))
    clear hb CC
    by_cases h0 : q = 0
    · have HQ1 : Hid (Z = (R : Int)) := by show _ = _; rw [HQ.out, if_pos h0]
      clear HQ
      subst h0
      go_wp2
      go_ret
      rw [HQ1.out]
      exact ⟨rfl, HB2.out⟩
    · have b0 : (q == 0) = false := beq_eq_false_iff_ne.2 h0
      have HQ1 : Hid (Z = -1) := by show _ = _; rw [HQ.out, if_neg h0]
      clear h0 HQ
      go_wp2
      go_ret
      rw [HQ1.out]
      exact ⟨rfl, HB2.out⟩
  · have HQ : Hid (Z = -1) := by
      show _ = _
      rw [HZ.out, decide_eq_false hlt, Bool.false_and, if_neg (by decide)]
    have t1 : ¬ (R : Int) < (l.length : Int) := by omega
    clear hlt
    go_enter Tryz.func111, Tryz.ntmps111
    go_wp2_with fail
    refine CP.out.mono ?_
    rintro e w1 ⟨rfl, hb⟩
    have HB1 := Lib.hid hb
    clear hb
    go_wp2
    go_ret
    rw [HQ.out]
    exact ⟨rfl, HB1.out⟩
def valsAt (l : List CellT) (m : Nat) : List Va := (l.getD m ⟨[], []⟩).vals
theorem valsAt_get {l : List CellT} {m : Nat} {c : CellT} (h : l[m]? = some c) : valsAt l m = c.vals := by unfold valsAt; rw [List.getD_eq_getElem?_getD, h]; rfl
def getB (x : ArrT) (c : List Int) : Bool := decide (checkE x = 0) && foundB x.cells c
def getL (x : ArrT) (c : List Int) : List Va := if getB x c = true then valsAt x.cells (placeN x.cells c) else []
def RetGet (x : ArrT) (c : List Int) (w : World) (e : Ending) (w' : World) : Prop := ∃ v, e = .returned (.tuple #[v, .bool (getB x c)]) ∧ Vals w' v (getL x c) ∧ Below w.heap.size w w'
theorem arr_at (w : World) (v1 v2 v3 : Value) : ∃ W1, W1 = w.alloc (.cells #[v1, v2, v3] 34) ∧ Below w.heap.size w W1 ∧ ∀ w', Below W1.heap.size W1 w' → w'.cell? ⟨w.heap.size, 0, none⟩ = some v1 ∧ w'.cell? ⟨w.heap.size, 1, none⟩ = some v2 ∧ w'.cell? ⟨w.heap.size, 2, none⟩ = some v3 := by
  refine ⟨_, rfl, below_alloc _ _, fun w' hb => ?_⟩
  have hc : ∀ j, w'.cell? ⟨w.heap.size, j, none⟩ = (w.alloc (.cells #[v1, v2, v3] 34)).cell? ⟨w.heap.size, j, none⟩ := fun j => hb.cell (p := ⟨w.heap.size, j, none⟩) (by simp)
  refine ⟨?_, ?_, ?_⟩ <;> (rw [hc, World.cell?_alloc_at _ _ _ _ rfl]; rfl)
theorem get_bad (x : ArrT) (c : List Int) (vd va vc u : Value) (w : World) (hx : ArrR w vd va vc x) (hc : Ints w u c) (hs : StrD x.dims) (hsa : StrA x.attrs) (h : checkE x ≠ 0) :
    Calls Tryz.prog 52 #[.agg #[vd, va, vc], u] w (RetGet x c w) := by
  have CK := Lib.hid (fun w1 (hb : Below w.heap.size w w1) => checkA_any x vd va vc w1 (hx.later hb) hs hsa)
  have h7 : getB x c = false := by unfold getB; rw [decide_eq_false h, Bool.false_and]
  have h8 : getL x c = [] := by unfold getL; rw [h7, if_neg (by decide)]
  unfold RetGet
  rw [h7, h8]
  have hne : (checkE x != 0) = true := by rw [bne_iff_ne]; exact h
  obtain ⟨E, hE⟩ : ∃ E, E = checkE x := ⟨_, rfl⟩
  rw [← hE] at hne CK
  obtain ⟨p1, cap1, rfl, -⟩ := hx.dims.shape
  obtain ⟨p2, cap2, rfl, -⟩ := hx.attrs.shape
  obtain ⟨p3, cap3, rfl, -⟩ := hx.cells.shape
  obtain ⟨p4, cap4, rfl, -⟩ := hc.shape
  obtain ⟨W1, hW1, hb1, hbx⟩ := arr_at w (.slice p1 x.dims.length cap1) (.slice p2 x.attrs.length cap2) (.slice p3 x.cells.length cap3)
  have HB1 := Lib.hid hb1
  have HBX := Lib.hid hbx
  clear hx hc hs hsa h h7 h8 hb1 hbx hE 
  go_enter Tryz.func52, Tryz.ntmps52
  go_wp2_with fail
  rw [← hW1]
  refine (CK.out _ HB1.out).mono ?_
  rintro e w2 ⟨rfl, hb⟩
  have HB2 := Lib.hid hb
  have HBW2 := Lib.hid (below_keep HB1.out hb)
  obtain ⟨d0, d1, d2⟩ := HBX.out w2 hb
  clear hb hW1 CK
  go_wp2
  go_ret2
  exact ⟨_, rfl, Ls.nil _ _ _ (by omega), HBW2.out⟩
set_option maxHeartbeats 3200000 in
set_option maxRecDepth 100000 in
theorem get_core (x : ArrT) (c : List Int) (vd va vc u : Value) (w : World) (hx : ArrR w vd va vc x) (hc : Ints w u c) (hs : StrD x.dims) (hsa : StrA x.attrs) (hq : CellsS x.cells 1000000) (h : checkE x = 0) :
    Calls Tryz.prog 52 #[.agg #[vd, va, vc], u] w (RetGet x c w) := by
  have hln := hq.len
  have CK := Lib.hid (fun w1 (hb : Below w.heap.size w w1) => h ▸ checkA_any x vd va vc w1 (hx.later hb) hs hsa)
  have CS := Lib.hid (fun w1 (hb : Below w.heap.size w w1) => search_any x.cells c vc u w1 (hx.cells.later CellR.lasts hb) (hc.later IntR.lasts hb) (by omega))
  have h7 : getB x c = foundB x.cells c := by unfold getB; rw [decide_eq_true h, Bool.true_and]
  have h8 : getL x c = if foundB x.cells c = true then valsAt x.cells (placeN x.cells c) else [] := by unfold getL; rw [h7]
  unfold RetGet
  rw [h7, h8]
  have HX := Lib.hid hx
  have HQ := Lib.hid hq
  have hfb : foundB x.cells c = true → placeN x.cells c < x.cells.length := fun h => by
    unfold foundB at h
    rw [Bool.and_eq_true] at h
    exact of_decide_eq_true h.1
  obtain ⟨p1, cap1, rfl, -⟩ := hx.dims.shape
  obtain ⟨p2, cap2, rfl, -⟩ := hx.attrs.shape
  obtain ⟨p3, cap3, rfl, -⟩ := hx.cells.shape
  obtain ⟨p4, cap4, rfl, -⟩ := hc.shape
  obtain ⟨W1, hW1, hb1, hbx⟩ := arr_at w (.slice p1 x.dims.length cap1) (.slice p2 x.attrs.length cap2) (.slice p3 x.cells.length cap3)
  have HB1 := Lib.hid hb1
  have HBX := Lib.hid hbx
  obtain ⟨B, hB⟩ : ∃ B, B = foundB x.cells c := ⟨_, rfl⟩
  obtain ⟨R, hR⟩ : ∃ R, R = placeN x.cells c := ⟨_, rfl⟩
  rw [← hB, ← hR] at hfb CS ⊢
  clear hx hc hs hsa h h7 h8 hb1 hbx hq hB hR  
  cases B with
  | false =>
    skip
    skip
    rw [if_neg (by decide)]
    clear hfb 
    go_enter Tryz.func52, Tryz.ntmps52
    go_wp2_with fail
    rw [← hW1]
    refine (CK.out _ HB1.out).mono ?_
    rintro e w2 ⟨rfl, hb⟩
    have HB2 := Lib.hid hb
    have HBW2 := Lib.hid (below_keep HB1.out hb)
    obtain ⟨d0, d1, d2⟩ := HBX.out w2 hb
    clear hb hW1 CK
    go_wp2_with fail
    refine (CS.out _ HBW2.out).mono ?_
    rintro e w3 ⟨rfl, hb⟩
    have HB3 := Lib.hid (HBW2.out.trans (hb.mono HBW2.out.size))
    clear hb CS
    go_wp2
    go_ret2
    exact ⟨_, rfl, Ls.nil _ _ _ (by omega), HB3.out⟩
  | true =>
    skip
    skip
    have hlt := hfb rfl
    rw [if_pos rfl]
    obtain ⟨VL, hVL⟩ : ∃ VL, VL = valsAt x.cells R := ⟨_, rfl⟩
    rw [← hVL]
    have HVL := Lib.hid hVL
    clear hfb hVL 
    go_enter Tryz.func52, Tryz.ntmps52
    go_wp2_with fail
    rw [← hW1]
    refine (CK.out _ HB1.out).mono ?_
    rintro e w2 ⟨rfl, hb⟩
    have HB2 := Lib.hid hb
    have HBW2 := Lib.hid (below_keep HB1.out hb)
    obtain ⟨d0, d1, d2⟩ := HBX.out w2 hb
    clear hb hW1 CK
    go_wp2_with fail
    refine (CS.out _ HBW2.out).mono ?_
    rintro e w3 ⟨rfl, hb⟩
    have HB3 := Lib.hid (HBW2.out.trans (hb.mono HBW2.out.size))
    have hbk := HB2.out.trans (hb.mono HB2.out.size)
    obtain ⟨e0, e1, e2⟩ := HBX.out w3 hbk
    obtain ⟨g, o, y, ea, hy, hr⟩ := (HX.out.cells.later CellR.lasts HB3.out).at R hlt
    subst ea
    obtain ⟨v1, v2, x0, x1, hco, hva⟩ := hr.ex
    have hvl : y.vals.length ≤ 1000000 := by have := (HQ.out.cell y (List.mem_of_getElem? hy)).vals; omega
    have HVA := Lib.hid hva
    obtain ⟨q2, kp2, rfl, k2, k2'⟩ := hva.shape
    have mb0 : (0 : Int) ≤ (R : Int) := by omega
    have mb1 : (R : Int) < (x.cells.length : Int) := by omega
    have HYV : Hid (VL = y.vals) := by show _ = _; rw [HVL.out, valsAt_get hy]
    clear hr hy hco hva hb hbk CS d0 d1 d2 e0 e1 hlt
    have CV := Lib.hid (cloneV_any y.vals _ w3 HVA.out hvl)
    clear hvl k2
    go_wp2_with fail
    refine CV.out.mono ?_
    rintro e w4 ⟨v9, rfl, hv9, hb9⟩
    have HV9 := Lib.hid hv9
    have HB9 := Lib.hid (below_keep HB3.out hb9)
    obtain ⟨q9, k9, rfl, -⟩ := hv9.shape
    clear hv9 hb9 CV
    go_wp2
    go_ret2
    exact ⟨_, rfl, by rw [HYV.out]; exact HV9.out, HB9.out⟩
theorem get_any (x : ArrT) (c : List Int) (vd va vc u : Value) (w : World) (hx : ArrR w vd va vc x) (hc : Ints w u c) (hs : StrD x.dims) (hsa : StrA x.attrs) (hq : CellsS x.cells 1000000) :
    Calls Tryz.prog 52 #[.agg #[vd, va, vc], u] w (RetGet x c w) := by
  by_cases h : checkE x = 0
  · exact get_core x c vd va vc u w hx hc hs hsa hq h
  · exact get_bad x c vd va vc u w hx hc hs hsa h
theorem rget_bad (x : ArrT) (c : List Int) (vd va vc u : Value) (w : World) (hx : ArrR w vd va vc x) (hc : Ints w u c) (hs : StrD x.dims) (hsa : StrA x.attrs) (hsc : StrC x.cells) (h : checkE x ≠ 0) :
    Calls Tryz.prog 53 #[.agg #[vd, va, vc], u] w (RetGet x c w) := by
  have CK := Lib.hid (fun w1 (hb : Below w.heap.size w w1) => rarr_any x vd va vc w1 (hx.later hb) hs hsa hsc)
  have h7 : getB x c = false := by unfold getB; rw [decide_eq_false h, Bool.false_and]
  have h8 : getL x c = [] := by unfold getL; rw [h7, if_neg (by decide)]
  unfold RetGet
  rw [h7, h8]
  have hne : (checkE x != 0) = true := by rw [bne_iff_ne]; exact h
  obtain ⟨E, hE⟩ : ∃ E, E = checkE x := ⟨_, rfl⟩
  rw [← hE] at hne CK
  obtain ⟨p1, cap1, rfl, -⟩ := hx.dims.shape
  obtain ⟨p2, cap2, rfl, -⟩ := hx.attrs.shape
  obtain ⟨p3, cap3, rfl, -⟩ := hx.cells.shape
  obtain ⟨p4, cap4, rfl, -⟩ := hc.shape
  obtain ⟨W1, hW1, hb1, hbx⟩ := arr_at w (.slice p1 x.dims.length cap1) (.slice p2 x.attrs.length cap2) (.slice p3 x.cells.length cap3)
  have HB1 := Lib.hid hb1
  have HBX := Lib.hid hbx
  clear hx hc hs hsa h h7 h8 hb1 hbx hE hsc
  go_enter Tryz.func53, Tryz.ntmps53
  go_wp2_with fail
  rw [← hW1]
  refine (CK.out _ HB1.out).mono ?_
  rintro e w2 ⟨rfl, hb⟩
  have HB2 := Lib.hid hb
  have HBW2 := Lib.hid (below_keep HB1.out hb)
  obtain ⟨d0, d1, d2⟩ := HBX.out w2 hb
  clear hb hW1 CK
  go_wp2
  go_ret2
  exact ⟨_, rfl, Ls.nil _ _ _ (by omega), HBW2.out⟩
set_option maxHeartbeats 3200000 in
set_option maxRecDepth 100000 in
theorem rget_core (x : ArrT) (c : List Int) (vd va vc u : Value) (w : World) (hx : ArrR w vd va vc x) (hc : Ints w u c) (hs : StrD x.dims) (hsa : StrA x.attrs) (hsc : StrC x.cells) (hq : CellsS x.cells 1000000) (h : checkE x = 0) :
    Calls Tryz.prog 53 #[.agg #[vd, va, vc], u] w (RetGet x c w) := by
  have hln := hq.len
  have CK := Lib.hid (fun w1 (hb : Below w.heap.size w w1) => h ▸ rarr_any x vd va vc w1 (hx.later hb) hs hsa hsc)
  have CS := Lib.hid (fun w1 (hb : Below w.heap.size w w1) => lookup_any x.cells c vc u w1 (hx.cells.later CellR.lasts hb) (hc.later IntR.lasts hb) (by omega))
  have h7 : getB x c = foundB x.cells c := by unfold getB; rw [decide_eq_true h, Bool.true_and]
  have h8 : getL x c = if foundB x.cells c = true then valsAt x.cells (placeN x.cells c) else [] := by unfold getL; rw [h7]
  unfold RetGet
  rw [h7, h8]
  have HX := Lib.hid hx
  have HQ := Lib.hid hq
  have hfb : foundB x.cells c = true → placeN x.cells c < x.cells.length := fun h => by
    unfold foundB at h
    rw [Bool.and_eq_true] at h
    exact of_decide_eq_true h.1
  obtain ⟨p1, cap1, rfl, -⟩ := hx.dims.shape
  obtain ⟨p2, cap2, rfl, -⟩ := hx.attrs.shape
  obtain ⟨p3, cap3, rfl, -⟩ := hx.cells.shape
  obtain ⟨p4, cap4, rfl, -⟩ := hc.shape
  obtain ⟨W1, hW1, hb1, hbx⟩ := arr_at w (.slice p1 x.dims.length cap1) (.slice p2 x.attrs.length cap2) (.slice p3 x.cells.length cap3)
  have HB1 := Lib.hid hb1
  have HBX := Lib.hid hbx
  have hlk : lookN x.cells c = if foundB x.cells c = true then (placeN x.cells c : Int) else -1 := rfl
  obtain ⟨Z, hZ⟩ : ∃ Z, Z = lookN x.cells c := ⟨_, rfl⟩
  rw [← hZ] at CS hlk
  obtain ⟨B, hB⟩ : ∃ B, B = foundB x.cells c := ⟨_, rfl⟩
  obtain ⟨R, hR⟩ : ∃ R, R = placeN x.cells c := ⟨_, rfl⟩
  rw [← hB, ← hR] at hfb hlk ⊢
  clear hx hc hs hsa h h7 h8 hb1 hbx hq hB hR hsc hZ
  cases B with
  | false =>
    have hz : Z = -1 := hlk
    subst hz
    rw [if_neg (by decide)]
    clear hfb hlk
    go_enter Tryz.func53, Tryz.ntmps53
    go_wp2_with fail
    rw [← hW1]
    refine (CK.out _ HB1.out).mono ?_
    rintro e w2 ⟨rfl, hb⟩
    have HB2 := Lib.hid hb
    have HBW2 := Lib.hid (below_keep HB1.out hb)
    obtain ⟨d0, d1, d2⟩ := HBX.out w2 hb
    clear hb hW1 CK
    go_wp2_with fail
    refine (CS.out _ HBW2.out).mono ?_
    rintro e w3 ⟨rfl, hb⟩
    have HB3 := Lib.hid (HBW2.out.trans (hb.mono HBW2.out.size))
    clear hb CS
    go_wp2
    go_ret2
    exact ⟨_, rfl, Ls.nil _ _ _ (by omega), HB3.out⟩
  | true =>
    have hz : Z = (R : Int) := hlk
    subst hz
    have hlt := hfb rfl
    rw [if_pos rfl]
    obtain ⟨VL, hVL⟩ : ∃ VL, VL = valsAt x.cells R := ⟨_, rfl⟩
    rw [← hVL]
    have HVL := Lib.hid hVL
    clear hfb hVL hlk
    go_enter Tryz.func53, Tryz.ntmps53
    go_wp2_with fail
    rw [← hW1]
    refine (CK.out _ HB1.out).mono ?_
    rintro e w2 ⟨rfl, hb⟩
    have HB2 := Lib.hid hb
    have HBW2 := Lib.hid (below_keep HB1.out hb)
    obtain ⟨d0, d1, d2⟩ := HBX.out w2 hb
    clear hb hW1 CK
    go_wp2_with fail
    refine (CS.out _ HBW2.out).mono ?_
    rintro e w3 ⟨rfl, hb⟩
    have HB3 := Lib.hid (HBW2.out.trans (hb.mono HBW2.out.size))
    have hbk := HB2.out.trans (hb.mono HB2.out.size)
    obtain ⟨e0, e1, e2⟩ := HBX.out w3 hbk
    obtain ⟨g, o, y, ea, hy, hr⟩ := (HX.out.cells.later CellR.lasts HB3.out).at R hlt
    subst ea
    obtain ⟨v1, v2, x0, x1, hco, hva⟩ := hr.ex
    have hvl : y.vals.length ≤ 1000000 := by have := (HQ.out.cell y (List.mem_of_getElem? hy)).vals; omega
    have HVA := Lib.hid hva
    obtain ⟨q2, kp2, rfl, k2, k2'⟩ := hva.shape
    have mb0 : (0 : Int) ≤ (R : Int) := by omega
    have mb1 : (R : Int) < (x.cells.length : Int) := by omega
    have HYV : Hid (VL = y.vals) := by show _ = _; rw [HVL.out, valsAt_get hy]
    clear hr hy hco hva hb hbk CS d0 d1 d2 e0 e1 hlt
    by_cases h0 : y.vals.length = 0
    · have hyl : y.vals = [] := List.length_eq_zero_iff.1 h0
      rw [hyl] at x1 HVA
      have HYL := Lib.hid hyl
      obtain ⟨hg1, hg2⟩ : w.heap.size < w3.heap.size ∧ g < w3.heap.size := ⟨World.block_lt_of_cell? _ _ e2, World.block_lt_of_cell? _ _ x1⟩
      have hg3 : w.heap.size ≠ w3.heap.size := Nat.ne_of_lt hg1
      have hg4 : g ≠ w3.heap.size := Nat.ne_of_lt hg2
      clear h0 hyl hvl k2
      cases q2 with
      | none =>
        go_wp2
        go_ret2
        exact ⟨_, rfl, by rw [HYV.out, HYL.out]; exact Ls.nil _ _ _ (by omega), below_keep HB3.out (below_alloc _ _)⟩
      | some ad =>
        go_wp2
        go_ret2
        exact ⟨_, rfl, by rw [HYV.out, HYL.out]; exact Ls.nil _ _ _ (by omega), below_keep HB3.out (below_alloc _ _)⟩
    · obtain ⟨g9, cp9, w9, hrun, hv9, -, hb9⟩ := copy_vals 73 w3 _ y.vals HVA.out (by omega) hvl
      have HV9 := Lib.hid hv9
      have HB9 := Lib.hid hb9
      have HRUN := Lib.hid hrun
      obtain ⟨hg1, hg2⟩ : w.heap.size < w3.heap.size ∧ g < w3.heap.size := ⟨World.block_lt_of_cell? _ _ e2, World.block_lt_of_cell? _ _ x1⟩
      have hg3 : w.heap.size ≠ w3.heap.size := Nat.ne_of_lt hg1
      have hg4 : g ≠ w3.heap.size := Nat.ne_of_lt hg2
      clear h0 hv9 hb9 hrun hvl k2
      go_wp2_with (at_builtin; refine Lib.wpList_append_run _ rfl _ _ _ _ rfl _ _ rfl rfl _ _ HRUN.out ?_)
      go_wp2
      go_ret2
      exact ⟨_, rfl, by rw [HYV.out]; exact HV9.out, below_keep HB3.out HB9.out⟩
theorem rget_any (x : ArrT) (c : List Int) (vd va vc u : Value) (w : World) (hx : ArrR w vd va vc x) (hc : Ints w u c) (hs : StrD x.dims) (hsa : StrA x.attrs) (hsc : StrC x.cells) (hq : CellsS x.cells 1000000) :
    Calls Tryz.prog 53 #[.agg #[vd, va, vc], u] w (RetGet x c w) := by
  by_cases h : checkE x = 0
  · exact rget_core x c vd va vc u w hx hc hs hsa hsc hq h
  · exact rget_bad x c vd va vc u w hx hc hs hsa hsc h
end Go.Proofs.YtpdhlgkcjakcgaaGreatDoor
/- Copies: slices.Clone of dimensions, attributes, values, integers. -/
namespace Go.Proofs.YtpdhlgkcjakcgaaGreatDoor
open Go.RowKit

def RetCpT {α : Type} (k : Nat) (Rd : World → Nat → Nat → α → Prop) (T : TypeId) (l : List α) (w : World) (e : Ending) (w' : World) : Prop := ∃ v, e = .returned v ∧ Ls k Rd w' v l ∧ TagV w' v T ∧ Below w.heap.size w w'
theorem tag_made (w : World) (T : TypeId) : TagV (w.alloc (.cells #[] T)) (.slice (some ⟨w.heap.size, 0, none⟩) 0 0) T := fun b hb => by
  simp only [Value.ownBlock, Option.some.injEq] at hb
  subst hb
  exact ⟨_, (0, 0), World.alloc_heap_new w _⟩
theorem tagV_of {w : World} {g n cap : Nat} {T : TypeId} (h : TagB w g T) : TagV w (.slice (some ⟨g, 0, none⟩) n cap) T := fun b hb => by
  simp only [Value.ownBlock, Option.some.injEq] at hb
  subst hb
  exact h
def cellsDim (x : DimT) : List Value := [.string ⟨x.name.toArray⟩, .int .i64 x.lo, .int .i64 x.hi]
theorem cellw_Dim : Cellw 3 cellsDim DimR where
  pos := by decide
  len _ := rfl
  one x u hu := by
    simp only [cellsDim, List.mem_cons, List.not_mem_nil, or_false] at hu
    rcases hu with rfl | rfl | rfl <;> rfl
  rd w g o x h t u hu := by
    match t, hu with
    | 0, hu => cases hu; exact h.name
    | 1, hu => cases hu; exact h.lo
    | 2, hu => cases hu; exact h.hi
    | n + 3, hu => simp [cellsDim] at hu
  mkR w g o x h := ⟨h 0 _ rfl, h 1 _ rfl, h 2 _ rfl⟩
theorem infoDimC : (Tryz.prog.info? 28).map (fun i => (i.zero, i.size, i.bytes)) = some (some (.agg #[.string ⟨#[]⟩, .int .i64 0, .int .i64 0]), 3, 32) := by kernel_rfl
theorem copy_Dim (ty : TypeId) (w : World) (v : Value) (l : List DimT) (h : Dims w v l) (hl : 0 < l.length) (hl9 : l.length ≤ 1000000) :
    ∃ g cap w', (Builtin.append_ #[22, 22] ty #[.slice (some ⟨w.heap.size, 0, none⟩) 0 0, v]).run Tryz.prog (w.alloc (.cells #[] 28)) = .ok (.slice (some ⟨g, 0, none⟩) l.length cap) w' ∧ Dims w' (.slice (some ⟨g, 0, none⟩) l.length cap) l ∧ TagB w' g 28 ∧ Below w.heap.size w w' :=
  run_copy cellw_Dim DimR.lasts Tryz.underlying22 infoDimC rfl ty w v l h hl (by omega) hl9
set_option maxRecDepth 100000 in
theorem cloneDim_any (l : List DimT) (v : Value) (w : World) (h : Dims w v l) (hl9 : l.length ≤ 1000000) :
    Calls Tryz.prog 136 #[v] w (RetCpT 3 DimR 28 l w) := by
  obtain ⟨a, cap, rfl, k1, k2⟩ := h.shape
  have q22 : ∀ (w : World) (a : Option Addr) (n c n' c' : Nat), (binOp .eql 22 (.slice a n c) (.slice none n' c')).run Tryz.prog w = .ok (.bool a.isNone) w := fun w a n c n' c' => Lib.run_eql_slice_nil w _ 28 a n c n' c' Tryz.underlying22
  cases a with
  | none =>
    have hl0 : l = [] := by
      rcases Nat.eq_zero_or_pos l.length with h0 | h0
      · exact List.length_eq_zero_iff.1 h0
      · obtain ⟨g, o, x, e, -⟩ := h.at 0 h0
        cases e
    subst hl0
    clear h hl9 k1
    go_enter Tryz.func136, Tryz.ntmps136
    go_wp2
    go_ret
    exact ⟨_, rfl, Ls.nil _ _ _ (by omega), TagV.nil _ _ _ _, Below.refl _ _⟩
  | some ad =>
    by_cases h0 : l.length = 0
    · obtain rfl : l = [] := List.length_eq_zero_iff.1 h0
      have HT := Lib.hid (tag_made w 28)
      clear h hl9 k1 h0
      go_enter Tryz.func136, Tryz.ntmps136
      go_wp2
      go_ret
      exact ⟨_, rfl, Ls.nil _ _ _ (by omega), HT.out, below_alloc _ _⟩
    · obtain ⟨g, cp, w', hrun, hv, ht, hb⟩ := copy_Dim 22 w _ l h (by omega) hl9
      have HV := Lib.hid hv
      have HB := Lib.hid hb
      have HT := Lib.hid (tagV_of (n := l.length) (cap := cp) ht)
      have HRUN := Lib.hid hrun
      clear h hl9 hv hb hrun ht
      go_enter Tryz.func136, Tryz.ntmps136
      go_wp2_with (at_builtin; refine Lib.wpList_append_run _ rfl _ _ _ _ rfl _ _ rfl rfl _ _ HRUN.out ?_)
      go_wp2
      go_ret
      exact ⟨_, rfl, HV.out, HT.out, HB.out⟩
def cellsAttr (x : AttrT) : List Value := [.string ⟨x.name.toArray⟩, .int .i64 x.ty]
theorem cellw_Attr : Cellw 2 cellsAttr AttrR where
  pos := by decide
  len _ := rfl
  one x u hu := by
    simp only [cellsAttr, List.mem_cons, List.not_mem_nil, or_false] at hu
    rcases hu with rfl | rfl <;> rfl
  rd w g o x h t u hu := by
    match t, hu with
    | 0, hu => cases hu; exact h.name
    | 1, hu => cases hu; exact h.ty
    | n + 2, hu => simp [cellsAttr] at hu
  mkR w g o x h := ⟨h 0 _ rfl, h 1 _ rfl⟩
theorem infoAttrC : (Tryz.prog.info? 93).map (fun i => (i.zero, i.size, i.bytes)) = some (some (.agg #[.string ⟨#[]⟩, .int .i64 0]), 2, 24) := by kernel_rfl
theorem copy_Attr (ty : TypeId) (w : World) (v : Value) (l : List AttrT) (h : Attrs w v l) (hl : 0 < l.length) (hl9 : l.length ≤ 1000000) :
    ∃ g cap w', (Builtin.append_ #[23, 23] ty #[.slice (some ⟨w.heap.size, 0, none⟩) 0 0, v]).run Tryz.prog (w.alloc (.cells #[] 93)) = .ok (.slice (some ⟨g, 0, none⟩) l.length cap) w' ∧ Attrs w' (.slice (some ⟨g, 0, none⟩) l.length cap) l ∧ TagB w' g 93 ∧ Below w.heap.size w w' :=
  run_copy cellw_Attr AttrR.lasts Tryz.underlying23 infoAttrC rfl ty w v l h hl (by omega) hl9
set_option maxRecDepth 100000 in
theorem cloneAttr_any (l : List AttrT) (v : Value) (w : World) (h : Attrs w v l) (hl9 : l.length ≤ 1000000) :
    Calls Tryz.prog 137 #[v] w (RetCpT 2 AttrR 93 l w) := by
  obtain ⟨a, cap, rfl, k1, k2⟩ := h.shape
  have q22 : ∀ (w : World) (a : Option Addr) (n c n' c' : Nat), (binOp .eql 23 (.slice a n c) (.slice none n' c')).run Tryz.prog w = .ok (.bool a.isNone) w := fun w a n c n' c' => Lib.run_eql_slice_nil w _ 93 a n c n' c' Tryz.underlying23
  cases a with
  | none =>
    have hl0 : l = [] := by
      rcases Nat.eq_zero_or_pos l.length with h0 | h0
      · exact List.length_eq_zero_iff.1 h0
      · obtain ⟨g, o, x, e, -⟩ := h.at 0 h0
        cases e
    subst hl0
    clear h hl9 k1
    go_enter Tryz.func137, Tryz.ntmps137
    go_wp2
    go_ret
    exact ⟨_, rfl, Ls.nil _ _ _ (by omega), TagV.nil _ _ _ _, Below.refl _ _⟩
  | some ad =>
    by_cases h0 : l.length = 0
    · obtain rfl : l = [] := List.length_eq_zero_iff.1 h0
      have HT := Lib.hid (tag_made w 93)
      clear h hl9 k1 h0
      go_enter Tryz.func137, Tryz.ntmps137
      go_wp2
      go_ret
      exact ⟨_, rfl, Ls.nil _ _ _ (by omega), HT.out, below_alloc _ _⟩
    · obtain ⟨g, cp, w', hrun, hv, ht, hb⟩ := copy_Attr 23 w _ l h (by omega) hl9
      have HV := Lib.hid hv
      have HB := Lib.hid hb
      have HT := Lib.hid (tagV_of (n := l.length) (cap := cp) ht)
      have HRUN := Lib.hid hrun
      clear h hl9 hv hb hrun ht
      go_enter Tryz.func137, Tryz.ntmps137
      go_wp2_with (at_builtin; refine Lib.wpList_append_run _ rfl _ _ _ _ rfl _ _ rfl rfl _ _ HRUN.out ?_)
      go_wp2
      go_ret
      exact ⟨_, rfl, HV.out, HT.out, HB.out⟩
def cellsInt (x : Int) : List Value := [.int .i64 x]
theorem cellw_Int : Cellw 1 cellsInt IntR where
  pos := by decide
  len _ := rfl
  one x u hu := by
    simp only [cellsInt, List.mem_cons, List.not_mem_nil, or_false] at hu
    rw [hu]; rfl
  rd w g o x h t u hu := by
    match t, hu with
    | 0, hu => cases hu; exact h
    | n + 1, hu => simp [cellsInt] at hu
  mkR w g o x h := h 0 _ rfl
theorem infoIntC : (Tryz.prog.info? 3).map (fun i => (i.zero, i.size, i.bytes)) = some (some (.int .i64 0), 1, 8) := by kernel_rfl
theorem copy_Int (ty : TypeId) (w : World) (v : Value) (l : List Int) (h : Ints w v l) (hl : 0 < l.length) (hl9 : l.length ≤ 1000000) :
    ∃ g cap w', (Builtin.append_ #[38, 38] ty #[.slice (some ⟨w.heap.size, 0, none⟩) 0 0, v]).run Tryz.prog (w.alloc (.cells #[] 3)) = .ok (.slice (some ⟨g, 0, none⟩) l.length cap) w' ∧ Ints w' (.slice (some ⟨g, 0, none⟩) l.length cap) l ∧ TagB w' g 3 ∧ Below w.heap.size w w' :=
  run_copy cellw_Int IntR.lasts Tryz.underlying38 infoIntC rfl ty w v l h hl (by omega) hl9
set_option maxRecDepth 100000 in
theorem cloneInt_any (l : List Int) (v : Value) (w : World) (h : Ints w v l) (hl9 : l.length ≤ 1000000) :
    Calls Tryz.prog 112 #[v] w (RetCpT 1 IntR 3 l w) := by
  obtain ⟨a, cap, rfl, k1, k2⟩ := h.shape
  have q22 : ∀ (w : World) (a : Option Addr) (n c n' c' : Nat), (binOp .eql 38 (.slice a n c) (.slice none n' c')).run Tryz.prog w = .ok (.bool a.isNone) w := fun w a n c n' c' => Lib.run_eql_slice_nil w _ 3 a n c n' c' Tryz.underlying38
  cases a with
  | none =>
    have hl0 : l = [] := by
      rcases Nat.eq_zero_or_pos l.length with h0 | h0
      · exact List.length_eq_zero_iff.1 h0
      · obtain ⟨g, o, x, e, -⟩ := h.at 0 h0
        cases e
    subst hl0
    clear h hl9 k1
    go_enter Tryz.func112, Tryz.ntmps112
    go_wp2
    go_ret
    exact ⟨_, rfl, Ls.nil _ _ _ (by omega), TagV.nil _ _ _ _, Below.refl _ _⟩
  | some ad =>
    by_cases h0 : l.length = 0
    · obtain rfl : l = [] := List.length_eq_zero_iff.1 h0
      have HT := Lib.hid (tag_made w 3)
      clear h hl9 k1 h0
      go_enter Tryz.func112, Tryz.ntmps112
      go_wp2
      go_ret
      exact ⟨_, rfl, Ls.nil _ _ _ (by omega), HT.out, below_alloc _ _⟩
    · obtain ⟨g, cp, w', hrun, hv, ht, hb⟩ := copy_Int 38 w _ l h (by omega) hl9
      have HV := Lib.hid hv
      have HB := Lib.hid hb
      have HT := Lib.hid (tagV_of (n := l.length) (cap := cp) ht)
      have HRUN := Lib.hid hrun
      clear h hl9 hv hb hrun ht
      go_enter Tryz.func112, Tryz.ntmps112
      go_wp2_with (at_builtin; refine Lib.wpList_append_run _ rfl _ _ _ _ rfl _ _ rfl rfl _ _ HRUN.out ?_)
      go_wp2
      go_ret
      exact ⟨_, rfl, HV.out, HT.out, HB.out⟩
set_option maxRecDepth 100000 in
theorem cloneVal_any (l : List Va) (v : Value) (w : World) (h : Vals w v l) (hl9 : l.length ≤ 1000000) :
    Calls Tryz.prog 110 #[v] w (RetCpT 4 ValR 126 l w) := by
  obtain ⟨a, cap, rfl, k1, k2⟩ := h.shape
  have q22 : ∀ (w : World) (a : Option Addr) (n c n' c' : Nat), (binOp .eql 73 (.slice a n c) (.slice none n' c')).run Tryz.prog w = .ok (.bool a.isNone) w := fun w a n c n' c' => Lib.run_eql_slice_nil w _ 126 a n c n' c' Tryz.underlying73
  cases a with
  | none =>
    have hl0 : l = [] := by
      rcases Nat.eq_zero_or_pos l.length with h0 | h0
      · exact List.length_eq_zero_iff.1 h0
      · obtain ⟨g, o, x, e, -⟩ := h.at 0 h0
        cases e
    subst hl0
    clear h hl9 k1
    go_enter Tryz.func110, Tryz.ntmps110
    go_wp2
    go_ret
    exact ⟨_, rfl, Ls.nil _ _ _ (by omega), TagV.nil _ _ _ _, Below.refl _ _⟩
  | some ad =>
    by_cases h0 : l.length = 0
    · obtain rfl : l = [] := List.length_eq_zero_iff.1 h0
      have HT := Lib.hid (tag_made w 126)
      clear h hl9 k1 h0
      go_enter Tryz.func110, Tryz.ntmps110
      go_wp2
      go_ret
      exact ⟨_, rfl, Ls.nil _ _ _ (by omega), HT.out, below_alloc _ _⟩
    · obtain ⟨g, cp, w', hrun, hv, ht, hb⟩ := copy_vals 73 w _ l h (by omega) hl9
      have HV := Lib.hid hv
      have HB := Lib.hid hb
      have HT := Lib.hid (tagV_of (n := l.length) (cap := cp) ht)
      have HRUN := Lib.hid hrun
      clear h hl9 hv hb hrun ht
      go_enter Tryz.func110, Tryz.ntmps110
      go_wp2_with (at_builtin; refine Lib.wpList_append_run _ rfl _ _ _ _ rfl _ _ rfl rfl _ _ HRUN.out ?_)
      go_wp2
      go_ret
      exact ⟨_, rfl, HV.out, HT.out, HB.out⟩
end Go.Proofs.YtpdhlgkcjakcgaaGreatDoor
