/- Lemmas and contracts, each under its own condition: space.Find: the contract. space.Find: the walk. The reference's Find: the contract. -/
import Derived.Deep.DeepCutAuto
import Derived.Deep.CutBlock
import Derived.BigQuiet
import Derived.Test.YtpdhlgkcjakcgaaGreatDoorS34
import Derived.Test.YtpdhlgkcjakcgaaGreatDoorS36
/- space.Find: the contract. -/
namespace Go.Proofs.YtpdhlgkcjakcgaaGreatDoor
open Go.RowKit

/-- the lists of an array are short -/
structure ArrS (x : ArrT) : Prop where
  d : x.dims.length ≤ 1000000
  a : x.attrs.length ≤ 1000000
  l : x.cells.length ≤ 1000000
  c : ShortC x.cells
/-- the array with a name -/
def findD (l : List NamT) (nm : List UInt8) : Option ArrT := (l.find? fun x => x.name == nm).map NamT.arr
def findQ (l : List NamT) (nm : List UInt8) : Option ArrT := if dbE l = 0 then findD l nm else none
def RetFd (q : Option ArrT) (w : World) (e : Ending) (w' : World) : Prop := ∃ v1 v2 v3, e = .returned (.tuple #[.agg #[v1, v2, v3], .bool q.isSome]) ∧ ArrR w' v1 v2 v3 (q.getD ⟨[], [], []⟩) ∧ Below w.heap.size w w'
theorem ArrR.nil (w : World) : ArrR w (.slice none 0 0) (.slice none 0 0) (.slice none 0 0) ⟨[], [], []⟩ := ⟨Ls.nil _ _ _ (by omega), Ls.nil _ _ _ (by omega), Ls.nil _ _ _ (by omega)⟩
theorem find_none_of {l : List NamT} {nm : List UInt8} (h : ∀ x ∈ l, x.name ≠ nm) : findD l nm = none := by
  unfold findD
  rw [List.find?_eq_none.2 fun x hx => by simpa using h x hx]; rfl
theorem find_some_of : ∀ {l : List NamT} {nm : List UInt8} {i : Nat} {x : NamT}, l[i]? = some x → x.name = nm → (∀ y ∈ l.take i, y.name ≠ nm) → findD l nm = some x.arr
  | [], nm, i, x, h, _, _ => by simp at h
  | y :: l, nm, 0, x, h, h1, _ => by
    simp at h
    subst h
    unfold findD
    rw [List.find?_cons_of_pos (by simpa using h1)]; rfl
  | y :: l, nm, i + 1, x, h, h1, h2 => by
    have hy := h2 y (by simp)
    have ih := find_some_of (l := l) (nm := nm) (i := i) (x := x) (by simpa using h) h1 (fun z hz => h2 z (by simp [hz]))
    unfold findD at ih ⊢
    rw [List.find?_cons_of_neg (by simpa using hy)]
    exact ih
theorem isName_any (nm na : List UInt8) (v1 v2 v3 : Value) (h1 : ∃ p n q, v1 = .slice p n q) (h2 : ∃ p n q, v2 = .slice p n q) (h3 : ∃ p n q, v3 = .slice p n q) (Bn : Nat) (w : World) (hB : w.cell? ⟨Bn, 0, none⟩ = some (strV na)) :
    Calls Tryz.prog 96 #[.agg #[strV nm, v1, v2, v3], .pointer (some ⟨Bn, 0, none⟩)] w (RetV' (.bool (nm == na)) w) := by
  have hlt : Bn < w.heap.size := World.block_lt_of_cell? _ _ hB
  have hne : Bn ≠ w.heap.size := Nat.ne_of_lt hlt
  obtain ⟨p1, n1, q1, rfl⟩ := h1
  obtain ⟨p2, n2, q2, rfl⟩ := h2
  obtain ⟨p3, n3, q3, rfl⟩ := h3
  go_enter Tryz.func96, Tryz.ntmps96
  go_wp2
  go_ret
  exact ⟨by first | rfl | simp, below_alloc _ _⟩
/-- where a name is -/
def AtN (l : List NamT) (nm : List UInt8) (r : Int) : Prop := (r = -1 ∧ ∀ x ∈ l, x.name ≠ nm) ∨ ∃ (i : Nat) (x : NamT), r = (i : Nat) ∧ l[i]? = some x ∧ x.name = nm ∧ ∀ y ∈ l.take i, y.name ≠ nm
set_option maxRecDepth 100000 in
theorem dbIdx_any (l : List NamT) (nm : List UInt8) (v : Value) (Bn : Nat) (w : World) (hd : Names w v l) (hB : w.cell? ⟨Bn, 0, none⟩ = some (strV nm)) :
    Calls Tryz.prog 95 #[v, .func (.func 96) #[] #[.pointer (some ⟨Bn, 0, none⟩)]] w (fun e w' => ∃ r : Int, e = .returned (.int .i64 r) ∧ AtN l nm r ∧ Below w.heap.size w w') := by
  have HD := Lib.hid hd
  have HBN := Lib.hid hB
  have hl := hd.len
  obtain ⟨a, cap, rfl, c1, c2⟩ := hd.shape
  clear hd hB
  go_enter Tryz.func95, Tryz.ntmps95
  go_wp2
  go_loopw [8] (fun iv wr => ∃ i : Nat, i ≤ l.length ∧ iv = .int .i64 (i : Nat) ∧ Hid (∀ y ∈ l.take i, y.name ≠ nm) ∧ Below w.heap.size w wr) (fun iv _ => l.length - (intOf iv).toNat)
  case atStart => exact ⟨0, Nat.zero_le _, rfl, (fun y hy => by simp at hy), Below.refl _ _⟩
  case round =>
    obtain ⟨i, hi, rfl, HN, hb⟩ := hrel
    have HB := Lib.hid hb
    by_cases hlt : i < l.length
    · obtain ⟨g, o, x, ea, hx, hr⟩ := (HD.out.later NamR.lasts hb).at i hlt
      subst ea
      obtain ⟨x0, vd, va, vc, x1, x2, x3, hx4⟩ := hr
      obtain ⟨p1, n1, q1, rfl⟩ : ∃ p n q, vd = .slice p n q := by obtain ⟨p, q, e, -⟩ := hx4.dims.shape; exact ⟨p, _, q, e⟩
      obtain ⟨p2, n2, q2, rfl⟩ : ∃ p n q, va = .slice p n q := by obtain ⟨p, q, e, -⟩ := hx4.attrs.shape; exact ⟨p, _, q, e⟩
      obtain ⟨p3, n3, q3, rfl⟩ : ∃ p n q, vc = .slice p n q := by obtain ⟨p, q, e, -⟩ := hx4.cells.shape; exact ⟨p, _, q, e⟩
      have HX := Lib.hid hx
      have CC := Lib.hid (isName_any x.name nm (.slice p1 n1 q1) (.slice p2 n2 q2) (.slice p3 n3 q3) ⟨_, _, _, rfl⟩ ⟨_, _, _, rfl⟩ ⟨_, _, _, rfl⟩ Bn wr (cell_later HBN.out hb))
      obtain ⟨na, ar⟩ := x
      simp only at x0 CC
      have HI1 : Hid (i + 1 ≤ l.length ∧ l.length - (i + 1) < l.length - i) := by show _ ∧ _; omega
      have ib0 : (0 : Int) ≤ (i : Int) := by omega
      have ib1 : (i : Int) < (l.length : Int) := by omega
      clear hb hx hx4 hi hlt
      by_cases he : na = nm
      · have HR : Hid (AtN l nm (i : Nat)) := .inr ⟨i, _, rfl, HX.out, he, HN.out⟩
        have t1 : (na == nm) = true := beq_iff_eq.2 he
        rw [t1] at CC
        clear t1 he
        go_wp2_with fail
        refine CC.out.mono ?_
        rintro e w2 ⟨rfl, hb⟩
        have HB2 := Lib.hid (below_keep HB.out hb)
        clear hb CC
        go_wp2
        go_ret
        exact ⟨_, rfl, HR.out, HB2.out⟩
      · have t1 : (na == nm) = false := by rw [beq_eq_false_iff_ne]; exact he
        rw [t1] at CC
        have HN2 : Hid (∀ y ∈ l.take (i + 1), y.name ≠ nm) := fun y hy => by
          rw [take_snoc' HX.out, List.mem_append, List.mem_singleton] at hy
          rcases hy with h | rfl
          · exact HN.out y h
          · exact he
        clear t1 he
        go_wp2_with fail
        refine CC.out.mono ?_
        rintro e w2 ⟨rfl, hb⟩
        have HB2 := Lib.hid (below_keep HB.out hb)
        clear hb CC
        go_wp2
        exact ⟨⟨i + 1, HI1.out.1, by go_num, HN2.out, HB2.out⟩, HI1.out.2⟩
    · obtain rfl : i = l.length := by omega
      have HR : Hid (AtN l nm (-1)) := .inl ⟨rfl, by have := HN.out; rwa [List.take_length] at this⟩
      clear hb hi hlt
      go_wp2
      go_ret
      exact ⟨_, rfl, HR.out, HB.out⟩
end Go.Proofs.YtpdhlgkcjakcgaaGreatDoor
/- space.Find: the walk. -/
namespace Go.Proofs.YtpdhlgkcjakcgaaGreatDoor
open Go.RowKit

theorem fnd_at (w : World) (nm : List UInt8) : ∃ W1, W1 = (w.alloc (.cells #[strV nm] 9)).alloc (.cells #[.slice none 0 0, .slice none 0 0, .slice none 0 0] 34) ∧ Below w.heap.size w W1 ∧ ∀ w', Below W1.heap.size W1 w' → w'.cell? ⟨w.heap.size, 0, none⟩ = some (strV nm) ∧ (w'.cell? ⟨w.heap.size + 1, 0, none⟩ = some (.slice none 0 0) ∧ w'.cell? ⟨w.heap.size + 1, 1, none⟩ = some (.slice none 0 0) ∧ w'.cell? ⟨w.heap.size + 1, 2, none⟩ = some (.slice none 0 0)) ∧ (w'.frozen? ⟨w.heap.size + 1, 0, none⟩ = false ∧ w'.frozen? ⟨w.heap.size + 1, 1, none⟩ = false ∧ w'.frozen? ⟨w.heap.size + 1, 2, none⟩ = false) ∧ TagB w' (w.heap.size + 1) 34 := by
  have hb1 : Below w.heap.size w (w.alloc (.cells #[strV nm] 9)) := below_alloc _ _
  obtain ⟨W1, hW1, hb2, hx⟩ := arr_zero (w.alloc (.cells #[strV nm] 9))
  refine ⟨W1, hW1, below_keep hb1 hb2, fun w' hb => ?_⟩
  have hy := hx w' hb
  simp only [World.size_alloc] at hy
  refine ⟨?_, hy⟩
  rw [(below_keep hb2 hb).cell (p := ⟨w.heap.size, 0, none⟩) (by simp), World.cell?_alloc_at _ _ _ _ rfl]; rfl
set_option maxHeartbeats 8000000 in
set_option maxRecDepth 100000 in
theorem find_any (l : List NamT) (nm : List UInt8) (v : Value) (w : World) (hd : Names w v l) (hs : StrN l) (hz : ∀ x ∈ l, ArrS x.arr) :
    Calls Tryz.prog 44 #[v, strV nm] w (RetFd (findQ l nm) w) := by
  have CB := Lib.hid (fun w1 (hb : Below w.heap.size w w1) => database_any l v w1 (hd.later NamR.lasts hb) hs)
  have CI := Lib.hid (fun w1 (hb : Below w.heap.size w w1) (hB : w1.cell? ⟨w.heap.size, 0, none⟩ = some (strV nm)) => dbIdx_any l nm v w.heap.size w1 (hd.later NamR.lasts hb) hB)
  have HD := Lib.hid hd
  have HZ := Lib.hid hz
  have hll := hd.len
  obtain ⟨p0, k0, rfl, -⟩ := hd.shape
  obtain ⟨E, hE⟩ : ∃ E, E = dbE l := ⟨_, rfl⟩
  rw [← hE] at CB
  have HQ : Hid (findQ l nm = if E = 0 then findD l nm else none) := by show _ = _; rw [hE]; rfl
  obtain ⟨W0, hW0, hb0, hx0⟩ := fnd_at w nm
  have HB0 := Lib.hid hb0
  have HX0 := Lib.hid hx0
  clear hd hs hz hE hb0 hx0
  go_enter Tryz.func44, Tryz.ntmps44
  go_wp2_with fail
  rw [← hW0]
  clear hW0
  refine (CB.out _ HB0.out).mono ?_
  rintro e w1 ⟨rfl, hb⟩
  have B1 := Lib.hid hb
  clear hb CB
  by_cases hE0 : E = 0
  · subst hE0
    obtain ⟨hnm, -⟩ := HX0.out w1 B1.out
    go_wp2_with fail
    refine (CI.out _ (below_keep HB0.out B1.out) hnm).mono ?_
    rintro e w2 ⟨r, rfl, hat, hb⟩
    have B2 := Lib.hid (below_keep B1.out hb)
    clear hb CI hnm
    rcases hat with ⟨rfl, hno⟩ | ⟨i, x, rfl, hx, he, hno⟩
    · have HF : Hid (findQ l nm = none) := (HQ.out.trans (by simp)).trans (find_none_of hno)
      obtain ⟨-, ⟨r0, r1, r2⟩, ⟨f0, f1, f2⟩, tg⟩ := HX0.out w2 B2.out
      clear hno tg
      go_wp2
      refine bodyPost_ret (by simp [results, Tryz.results44, go_sem, r0, r1, r2]; try rfl) rfl ?_
      rw [HF.out]
      exact ⟨_, _, _, rfl, ArrR.nil _, (((below_keep HB0.out B2.out).setCell (p := ⟨w.heap.size + 1, 0, none⟩) (Nat.le_succ _) _).setCell (p := ⟨w.heap.size + 1, 1, none⟩) (Nat.le_succ _) _).setCell (p := ⟨w.heap.size + 1, 2, none⟩) (Nat.le_succ _) _⟩
    · have HF : Hid (findQ l nm = some x.arr) := (HQ.out.trans (by simp)).trans (find_some_of hx he hno)
      have hlt := (List.getElem?_eq_some_iff.1 hx).1
      obtain ⟨g, o, x', ea, hx', hr⟩ := (HD.out.later NamR.lasts (below_keep HB0.out B2.out)).at i hlt
      cases hx.symm.trans hx'
      subst ea
      obtain ⟨x0, vd, va, vc, x1, x2, x3, hx4⟩ := hr
      have hz := HZ.out x (List.mem_of_getElem? hx)
      have CF := Lib.hid (fun w9 (hb9 : Below w2.heap.size w2 w9) => fresh_any x.arr.dims x.arr.attrs x.arr.cells vd va vc w9 (hx4.later hb9).dims (hx4.later hb9).attrs (hx4.later hb9).cells hz.d hz.a hz.l hz.c)
      obtain ⟨p1, n1, q1, rfl⟩ : ∃ p n q, vd = .slice p n q := by obtain ⟨p, q, e, -⟩ := hx4.dims.shape; exact ⟨p, _, q, e⟩
      obtain ⟨p2, n2, q2, rfl⟩ : ∃ p n q, va = .slice p n q := by obtain ⟨p, q, e, -⟩ := hx4.attrs.shape; exact ⟨p, _, q, e⟩
      obtain ⟨p3, n3, q3, rfl⟩ : ∃ p n q, vc = .slice p n q := by obtain ⟨p, q, e, -⟩ := hx4.cells.shape; exact ⟨p, _, q, e⟩
      have ib0 : (0 : Int) ≤ (i : Int) := by omega
      have ib1 : (i : Int) < (l.length : Int) := by omega
      have ib2 : decide ((i : Int) < 0) = false := decide_eq_false (by omega)
      obtain ⟨-, ⟨r0, r1, r2⟩, ⟨f0, f1, f2⟩, tg⟩ := HX0.out w2 B2.out
      clear hno he hx hx' hx4 hz tg x0 hlt
      go_wp2_with fail
      go_region_with ((go_at_call 97; refine (CF.out _ (Below.refl _ _).drew).mono ?_; rintro e z ⟨u1, u2, u3, rfl, m1, m2, m3, m4, m5, hb⟩; have hbz : Below w2.heap.size w2 z := below_keep (Below.refl _ _).drew hb; obtain ⟨-, ⟨r0, r1, r2⟩, ⟨f0, f1, f2⟩, tg⟩ := HX0.out z (below_keep B2.out hbz); obtain ⟨y1, t1, rfl, -⟩ := m1.shape; obtain ⟨y2, t2, rfl, -⟩ := m3.shape; obtain ⟨y3, t3, rfl, -⟩ := m5.cells.shape; have HD9 := Lib.hid (fun a b c => arr_done (w := w) (n := w2.heap.size) (X := x.arr) (x := a) (y := b) (t := c) m1 m2 m3 m4 (m5.base (by simp)) tg (below_keep HB0.out (below_keep B2.out hbz)) (Nat.le_succ _) (below_keep HB0.out B2.out).size); clear hb hbz m1 m2 m3 m4 m5 tg))
      all_goals
        go_wp2
        refine bodyPost_ret (by simp [results, Tryz.results44, go_sem, r0, r1, r2]; try rfl) rfl ?_
        rw [HF.out]
        obtain ⟨s1, -, s3, -, s5, s6⟩ := HD9.out (.slice y1 x.arr.dims.length t1) (.slice y2 x.arr.attrs.length t2) (.slice y3 x.arr.cells.length t3)
        exact ⟨_, _, _, rfl, ⟨s1, s3, s5.cells⟩, s6⟩
  · have t1 : (E != 0) = true := bne_iff_ne.2 hE0
    have HF : Hid (findQ l nm = none) := by show _ = _; rw [HQ.out, if_neg hE0]
    obtain ⟨-, ⟨r0, r1, r2⟩, ⟨f0, f1, f2⟩, tg⟩ := HX0.out w1 B1.out
    clear hE0 tg CI
    go_wp2
    refine bodyPost_ret (by simp [results, Tryz.results44, go_sem, r0, r1, r2]; try rfl) rfl ?_
    rw [HF.out]
    exact ⟨_, _, _, rfl, ArrR.nil _, (((below_keep HB0.out B1.out).setCell (p := ⟨w.heap.size + 1, 0, none⟩) (Nat.le_succ _) _).setCell (p := ⟨w.heap.size + 1, 1, none⟩) (Nat.le_succ _) _).setCell (p := ⟨w.heap.size + 1, 2, none⟩) (Nat.le_succ _) _⟩
end Go.Proofs.YtpdhlgkcjakcgaaGreatDoor
/- The reference's Find: the contract. -/
namespace Go.Proofs.YtpdhlgkcjakcgaaGreatDoor
open Go.RowKit

set_option maxHeartbeats 8000000 in
set_option maxRecDepth 100000 in
theorem rfind_any (l : List NamT) (nm : List UInt8) (v : Value) (w : World) (hd : Names w v l) (hs : StrN l) (hsc : ∀ x ∈ l, StrC x.arr.cells) (hz : ∀ x ∈ l, ArrS x.arr) :
    Calls Tryz.prog 45 #[v, strV nm] w (RetFd (findQ l nm) w) := by
  have CB := Lib.hid (fun w1 (hb : Below w.heap.size w w1) => rdatabase_any l v w1 (hd.later NamR.lasts hb) hs hsc)
  have HD := Lib.hid hd
  have HZ := Lib.hid hz
  have hll := hd.len
  obtain ⟨p0, k0, rfl, -⟩ := hd.shape
  obtain ⟨E, hE⟩ : ∃ E, E = dbE l := ⟨_, rfl⟩
  rw [← hE] at CB
  have HQ : Hid (findQ l nm = if E = 0 then findD l nm else none) := by show _ = _; rw [hE]; rfl
  obtain ⟨W0, hW0, hb0, hx0⟩ := arr_zero w
  have HB0 := Lib.hid hb0
  have HX0 := Lib.hid hx0
  clear hd hs hsc hz hE hb0 hx0
  go_enter Tryz.func45, Tryz.ntmps45
  go_wp2_with fail
  rw [← hW0]
  clear hW0
  refine (CB.out _ HB0.out).mono ?_
  rintro e w1 ⟨rfl, hb⟩
  have B1 := Lib.hid hb
  clear hb CB
  by_cases hE0 : E = 0
  · have HQ1 : Hid (findQ l nm = findD l nm) := HQ.out.trans (if_pos hE0)
    subst hE0
    clear HQ
    go_wp2
    go_loopw [6] (fun iv wr => ∃ i : Nat, i ≤ l.length ∧ iv = .int .i64 (i : Nat) ∧ Hid (∀ y ∈ l.take i, y.name ≠ nm) ∧ Below W0.heap.size W0 wr) (fun iv _ => l.length - (intOf iv).toNat)
    case atStart => exact ⟨0, Nat.zero_le _, rfl, (fun y hy => by simp at hy), B1.out⟩
    case round =>
      obtain ⟨i, hi, rfl, HN, hb⟩ := hrel
      have HB := Lib.hid hb
      by_cases hlt : i < l.length
      · obtain ⟨g, o, x, ea, hx, hr⟩ := (HD.out.later NamR.lasts (below_keep HB0.out hb)).at i hlt
        subst ea
        obtain ⟨x0, vd, va, vc, x1, x2, x3, hx4⟩ := hr
        have hz := HZ.out x (List.mem_of_getElem? hx)
        have HX := Lib.hid hx
        have CF := Lib.hid (fun w9 (hb9 : Below wr.heap.size wr w9) => copy_any x.arr.dims x.arr.attrs x.arr.cells vd va vc w9 (hx4.later hb9).dims (hx4.later hb9).attrs (hx4.later hb9).cells hz.d hz.a hz.l hz.c)
        obtain ⟨p1, n1, q1, rfl⟩ : ∃ p n q, vd = .slice p n q := by obtain ⟨p, q, e, -⟩ := hx4.dims.shape; exact ⟨p, _, q, e⟩
        obtain ⟨p2, n2, q2, rfl⟩ : ∃ p n q, va = .slice p n q := by obtain ⟨p, q, e, -⟩ := hx4.attrs.shape; exact ⟨p, _, q, e⟩
        obtain ⟨p3, n3, q3, rfl⟩ : ∃ p n q, vc = .slice p n q := by obtain ⟨p, q, e, -⟩ := hx4.cells.shape; exact ⟨p, _, q, e⟩
        have HI1 : Hid (i + 1 ≤ l.length ∧ l.length - (i + 1) < l.length - i) := by show _ ∧ _; omega
        have ib0 : (0 : Int) ≤ (i : Int) := by omega
        have ib1 : (i : Int) < (l.length : Int) := by omega
        obtain ⟨na, ar⟩ := x
        simp only at x0 CF
        clear hb hx hx4 hz hi hlt
        by_cases he : na = nm
        · have HF : Hid (findQ l nm = some ar) := HQ1.out.trans (find_some_of HX.out he HN.out)
          subst he
          go_wp2_with fail
          refine (CF.out _ (Below.refl _ _)).mono ?_
          rintro e z ⟨u1, u2, u3, rfl, m1, m2, m3, m4, m5, hbz⟩
          obtain ⟨⟨r0, r1, r2⟩, ⟨f0, f1, f2⟩, tg⟩ := HX0.out z (below_keep HB.out hbz)
          obtain ⟨y1, t1, rfl, -⟩ := m1.shape
          obtain ⟨y2, t2, rfl, -⟩ := m3.shape
          obtain ⟨y3, t3, rfl, -⟩ := m5.cells.shape
          have HD9 := Lib.hid (fun a b c => arr_done (w := w) (n := wr.heap.size) (X := ar) (x := a) (y := b) (t := c) m1 m2 m3 m4 m5 tg (below_keep HB0.out (below_keep HB.out hbz)) (Nat.le_refl _) (below_keep HB0.out HB.out).size)
          clear hbz m1 m2 m3 m4 m5 tg x0 x1 x2 x3 CF
          go_wp2
          refine bodyPost_ret (by simp [results, Tryz.results45, go_sem, r0, r1, r2]; try rfl) rfl ?_
          rw [HF.out]
          obtain ⟨s1, -, s3, -, s5, s6⟩ := HD9.out (.slice y1 ar.dims.length t1) (.slice y2 ar.attrs.length t2) (.slice y3 ar.cells.length t3)
          exact ⟨_, _, _, rfl, ⟨s1, s3, s5.cells⟩, s6⟩
        · have t1 : (na == nm) = false := by rw [beq_eq_false_iff_ne]; exact he
          have HN2 : Hid (∀ y ∈ l.take (i + 1), y.name ≠ nm) := fun y hy => by
            rw [take_snoc' HX.out, List.mem_append, List.mem_singleton] at hy
            rcases hy with h | rfl
            · exact HN.out y h
            · exact he
          clear he
          go_wp2
          exact ⟨⟨i + 1, HI1.out.1, by go_num, HN2.out, HB.out⟩, HI1.out.2⟩
      · obtain rfl : i = l.length := by omega
        have HF : Hid (findQ l nm = none) := HQ1.out.trans (find_none_of (by have := HN.out; rwa [List.take_length] at this))
        obtain ⟨⟨r0, r1, r2⟩, ⟨f0, f1, f2⟩, tg⟩ := HX0.out wr hb
        clear hb hi hlt tg
        go_wp2
        refine bodyPost_ret (by simp [results, Tryz.results45, go_sem, r0, r1, r2]; try rfl) rfl ?_
        rw [HF.out]
        exact ⟨_, _, _, rfl, ArrR.nil _, (((below_keep HB0.out HB.out).setCell (p := ⟨w.heap.size, 0, none⟩) (Nat.le_refl _) _).setCell (p := ⟨w.heap.size, 1, none⟩) (Nat.le_refl _) _).setCell (p := ⟨w.heap.size, 2, none⟩) (Nat.le_refl _) _⟩
  · have t1 : (E != 0) = true := bne_iff_ne.2 hE0
    have HF : Hid (findQ l nm = none) := by show _ = _; rw [HQ.out, if_neg hE0]
    obtain ⟨⟨r0, r1, r2⟩, ⟨f0, f1, f2⟩, tg⟩ := HX0.out w1 B1.out
    clear hE0 tg
    go_wp2
    refine bodyPost_ret (by simp [results, Tryz.results45, go_sem, r0, r1, r2]; try rfl) rfl ?_
    rw [HF.out]
    exact ⟨_, _, _, rfl, ArrR.nil _, (((below_keep HB0.out B1.out).setCell (p := ⟨w.heap.size, 0, none⟩) (Nat.le_refl _) _).setCell (p := ⟨w.heap.size, 1, none⟩) (Nat.le_refl _) _).setCell (p := ⟨w.heap.size, 2, none⟩) (Nat.le_refl _) _⟩
end Go.Proofs.YtpdhlgkcjakcgaaGreatDoor
