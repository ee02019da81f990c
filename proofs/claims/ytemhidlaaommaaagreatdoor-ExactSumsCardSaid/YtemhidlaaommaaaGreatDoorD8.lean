/- Lemmas and contracts, each under its own condition: Contract: Type. Contract: Do, where an operand or the operation is not valid. -/
import Derived.Test.YtemhidlaaommaaaGreatDoorD7
/- Contract: Type. -/
namespace Go.Proofs.YtemhidlaaommaaaGreatDoor
open Go.RowKit

/-- a slice of numbers, or nil -/
def InS (w : World) (v : Value) (l : List Int) : Prop := (∃ a cap, v = .slice a 0 cap ∧ l = []) ∨ InL w v l
theorem InS.shape {w : World} {v : Value} {l : List Int} (h : InS w v l) : ∃ a cap, v = .slice a l.length cap ∧ l.length ≤ 9223372036854775807 := by
  rcases h with ⟨a, cap, rfl, rfl⟩ | ⟨g, o, cap, rfl, h1, h2, -⟩
  · exact ⟨a, cap, rfl, by simp⟩
  · exact ⟨_, cap, rfl, by omega⟩
def typeR (p : Int × Int) : Value := .tuple #[.int .i64 p.1, .int .i64 p.2]

theorem type_bad (op : Int) (l : List Int) (v : Value) (w : World) (hv : InS w v l) (h : knownOp op l.length = false) :
    Calls Tryz.prog 38 #[.int .i64 op, v] w fun e w' => e = .returned (typeR (0, 2)) ∧ Below w.heap.size w w' := by
  obtain ⟨a, cap, rfl, hn⟩ := hv.shape
  unfold knownOp at h
  by_cases hr : 4 ≤ op ∧ op ≤ 22
  · have hd : decide (((opS op.toNat).n : Int) = (l.length : Int)) = false := by
      rw [decide_eq_false_iff_not]; intro e
      have : (opS op.toNat).n = l.length := by omega
      simp [hr, this] at h
    have C := Lib.hid (fun w1 => find_some op l.length w1 hr.1 hr.2)
    simp only [hd] at C
    clear h hr hd hv
    go_enter Tryz.func38, Tryz.ntmps38
    go_wp2_with fail
    refine (C.out _).mono ?_
    rintro e w1 ⟨kv, tv, dv, rfl, hok, hb⟩
    obtain ⟨gk, lk, ek, -⟩ := hok.kinds
    obtain ⟨gt, lt, et, -⟩ := hok.typed
    obtain ⟨gd, ld, ed, -⟩ := hok.res
    subst ek et ed
    clear hok C
    go_wp2
    go_ret2
    exact ⟨rfl, hb.alloc hb.size _⟩
  · have C := Lib.hid (fun w1 => find_none op l.length w1 (by omega))
    clear h hr hv
    go_enter Tryz.func38, Tryz.ntmps38
    go_wp2_with fail
    refine (C.out _).mono ?_
    rintro e w1 ⟨rfl, hb⟩
    clear C
    go_wp2
    go_ret2
    exact ⟨rfl, hb.alloc hb.size _⟩

def tyOk (t : Int) : Bool := decide (1 ≤ t ∧ t ≤ 4)
theorem all_take_succ {α : Type} {l : List α} {f : α → Bool} {k : Nat} {x : α} (h : (l.take k).all f = true) (hx : l[k]? = some x) (hf : f x = true) : (l.take (k + 1)).all f = true := by
  have hk : k < l.length := (List.getElem?_eq_some_iff.1 hx).1
  have e : l[k] = x := (List.getElem?_eq_some_iff.1 hx).2
  rw [List.take_succ_eq_append_getElem hk, List.all_append, h, e]
  simpa using hf

set_option maxHeartbeats 1600000 in
theorem type_good (op : Int) (l : List Int) (v : Value) (w : World) (hv : InL w v l) (h : knownOp op l.length = true) :
    Calls Tryz.prog 38 #[.int .i64 op, v] w fun e w' => e = .returned (typeR (typeE op l)) ∧ Below w.heap.size w w' := by
  obtain ⟨R, hR⟩ : ∃ R : Ending → World → Prop, R = fun e w' => e = .returned (typeR (typeE op l)) ∧ Below w.heap.size w w' := ⟨_, rfl⟩
  rw [← hR]
  have HR := Lib.hid hR
  have HV := Lib.hid hv
  obtain ⟨g, o, cap, rfl, h1, h2, h3⟩ := hv
  have hkn := h
  unfold knownOp at h
  rw [Bool.and_eq_true, decide_eq_true_eq, decide_eq_true_eq] at h
  obtain ⟨⟨hr1, hr2⟩, hn⟩ := h
  have C := Lib.hid (fun w1 => find_some op l.length w1 hr1 hr2)
  have hd : decide (((opS op.toNat).n : Int) = (l.length : Int)) = true := by rw [decide_eq_true_eq, hn]
  simp only [hd] at C
  obtain ⟨S, hS⟩ : ∃ S, opS op.toNat = S := ⟨_, rfl⟩
  rw [hS] at C hn
  have HE : Hid (typeE op l = if l.all tyOk = false then (0, 2) else if S.typed l = 0 then (0, 12) else (S.typed l, 0)) := by
    show _ = _
    unfold typeE
    rw [hkn, hS]; rfl
  have HN := Lib.hid hn
  have HC := Lib.hid h3
  obtain ⟨n, hln⟩ : ∃ n, l.length = n := ⟨_, rfl⟩
  rw [hln] at C HN h1
  simp only [hln] at HV ⊢
  have HL := Lib.hid hln
  clear h3 hkn hr1 hr2 hd hS hn hR hln
  go_enter Tryz.func38, Tryz.ntmps38
  go_wp2_with fail
  refine (C.out _).mono ?_
  rintro e w1 ⟨kv, tv, dv, rfl, hok, hb⟩
  have HB := Lib.hid hb
  have HOK := Lib.hid hok
  obtain ⟨gk, lk, ek, -⟩ := hok.kinds
  obtain ⟨gt, lt, et, hent, -⟩ := hok.typed
  obtain ⟨gd, ld, ed, -⟩ := hok.res
  subst ek et ed
  clear hok C hb
  obtain ⟨W, hW⟩ : ∃ W, W = w1.alloc (.cells #[.int .i64 S.n, .func (.func gk) #[] lk, .func (.func gt) #[] lt, .bool S.free, .func (.func gd) #[] ld] 125) := ⟨_, rfl⟩
  have HWB : Hid (Below w1.heap.size w1 W) := by show Below _ _ _; rw [hW]; exact below_alloc _ _
  have hc2 : W.cell? ⟨w1.heap.size, 2, none⟩ = some (.func (.func gt) #[] lt) := by
    rw [hW, World.cell?_alloc_at _ _ _ _ rfl]; rfl
  have HBW : Hid (Below w.heap.size w W) := below_keep HB.out HWB.out
  go_wp2
  rw [← hW]
  clear hW
  go_loopw [9, 22] (fun _ iv wr => ∃ k : Nat, k ≤ n ∧ iv = .int .i64 (k : Nat) ∧ Hid ((l.take k).all tyOk = true) ∧ wr = W) (fun _ iv _ => n - (intOf iv).toNat)
  case atStart => exact ⟨0, Nat.zero_le _, rfl, rfl, rfl⟩
  case round =>
    obtain ⟨k, hk, rfl, hall, rfl⟩ := hrel
    by_cases hlt : k < n
    · obtain ⟨x, hx⟩ : ∃ x, l[k]? = some x := ⟨_, List.getElem?_eq_getElem (by rw [HL.out]; exact hlt)⟩
      have hcell := (HBW.out.cell (p := ⟨g, o + k, none⟩) (World.block_lt_of_cell? w ⟨g, o + k, none⟩ (HC.out k x hx))).trans (HC.out k x hx)
      have HX := Lib.hid hx
      clear hx
      by_cases hok : tyOk x = true
      · have hst : Hid ((l.take (k + 1)).all tyOk = true) := all_take_succ hall.out HX.out hok
        unfold tyOk at hok
        rw [decide_eq_true_eq] at hok
        have e1 : decide (x < 1) = false := by rw [decide_eq_false_iff_not]; omega
        have e2 : decide (4 < x) = false := by rw [decide_eq_false_iff_not]; omega
        clear hok
        go_wp2
        exact ⟨⟨k + 1, by omega, rfl, hst, trivial⟩, by show n - (k + 1) < n - k; omega⟩
      · have hbad : Hid (l.all tyOk = false) := by
          show _ = _
          rw [List.all_eq_false]
          exact ⟨x, List.mem_of_getElem? HX.out, by simpa using hok⟩
        have hok' : decide (x < 1) = true ∨ (decide (x < 1) = false ∧ decide (4 < x) = true) := by
          unfold tyOk at hok
          rw [decide_eq_true_eq] at hok
          by_cases h : x < 1
          · exact .inl (by simpa using h)
          · exact .inr ⟨by simpa using h, by rw [decide_eq_true_eq]; omega⟩
        have hfin : Hid (R (.returned (.tuple #[.int .i64 0, .int .i64 2])) wr) := by
          show R _ _
          rw [HR.out, HE.out, if_pos hbad.out]
          exact ⟨rfl, HBW.out⟩
        clear hok
        rcases hok' with e1 | ⟨e1, e2⟩
        all_goals
          go_wp2
          first
            | exact hfin.out
            | (go_ret2; exact hfin.out)
    · obtain rfl : k = n := by omega
      have hall' : Hid (l.all tyOk = true) := by
        show _ = _
        have := hall.out
        rwa [List.take_of_length_le (by rw [HL.out]; exact Nat.le_refl _)] at this
      have HT := HOK.out.typed
      obtain ⟨g2, l2, e2, -, hcon⟩ := HT
      injection e2 with e3 e4 e5
      injection e3 with e6
      subst e5 e6
      have HCON := Lib.hid (hcon wr _ l HWB.out (HV.out.later HBW.out) (by rw [HL.out, HN.out]) hall'.out)
      clear hcon e4 hall
      by_cases h0 : S.typed l = 0
      · have hfin : Hid (∀ w9, Below wr.heap.size wr w9 → R (.returned (.tuple #[.int .i64 0, .int .i64 12])) w9) := by
          intro w9 hb9
          rw [HR.out, HE.out, if_neg (by rw [hall'.out]; simp), if_pos h0]
          exact ⟨rfl, below_keep HBW.out hb9⟩
        have e0 : (S.typed l == 0) = true := by simpa using h0
        clear h0
        go_wp2_with fail
        refine HCON.out.mono ?_
        rintro e w9 ⟨rfl, hb9⟩
        have hfin2 := Lib.hid (hfin.out w9 hb9)
        clear hb9
        go_wp2
        exact hfin2.out
      · have hfin : Hid (∀ w9, Below wr.heap.size wr w9 → R (.returned (.tuple #[.int .i64 (S.typed l), .int .i64 0])) w9) := by
          intro w9 hb9
          rw [HR.out, HE.out, if_neg (by rw [hall'.out]; simp), if_neg h0]
          exact ⟨rfl, below_keep HBW.out hb9⟩
        have e0 : (S.typed l == 0) = false := by simpa using h0
        clear h0
        go_wp2_with fail
        refine HCON.out.mono ?_
        rintro e w9 ⟨rfl, hb9⟩
        have hfin2 := Lib.hid (hfin.out w9 hb9)
        clear hb9
        go_wp2
        exact hfin2.out

theorem type_any (op : Int) (l : List Int) (v : Value) (w : World) (hv : InS w v l) :
    Calls Tryz.prog 38 #[.int .i64 op, v] w fun e w' => e = .returned (typeR (typeE op l)) ∧ Below w.heap.size w w' := by
  cases h : knownOp op l.length with
  | false =>
    have e : typeE op l = (0, 2) := by unfold typeE; rw [if_pos h]
    rw [e]
    exact type_bad op l v w hv h
  | true =>
    rcases hv with ⟨_, _, rfl, rfl⟩ | hv
    · exfalso
      unfold knownOp at h
      rw [Bool.and_eq_true, decide_eq_true_eq, decide_eq_true_eq] at h
      obtain ⟨⟨h1, h2⟩, h3⟩ := h
      have h4 : ∃ k, op.toNat = k ∧ 4 ≤ k ∧ k ≤ 22 := ⟨op.toNat, rfl, by omega, by omega⟩
      obtain ⟨k, h5, h6, h7⟩ := h4
      rw [h5] at h3
      revert h3
      have : k = 4 ∨ k = 5 ∨ k = 6 ∨ k = 7 ∨ k = 8 ∨ k = 9 ∨ k = 10 ∨ k = 11 ∨ k = 12 ∨ k = 13 ∨ k = 14 ∨ k = 15 ∨ k = 16 ∨ k = 17 ∨ k = 18 ∨ k = 19 ∨ k = 20 ∨ k = 21 ∨ k = 22 := by omega
      rcases this with rfl | rfl | rfl | rfl | rfl | rfl | rfl | rfl | rfl | rfl | rfl | rfl | rfl | rfl | rfl | rfl | rfl | rfl | rfl <;> decide
    · exact type_good op l v w hv h
end Go.Proofs.YtemhidlaaommaaaGreatDoor
/- Contract: Do, where an operand or the operation is not valid. -/
namespace Go.Proofs.YtemhidlaaommaaaGreatDoor
open Go.RowKit

/-- a slice of values, or nil -/
def VaS (w : World) (v : Value) (l : List Va) : Prop := (∃ a cap, v = .slice a 0 cap ∧ l = []) ∨ VaL w v l
theorem VaS.shape {w : World} {v : Value} {l : List Va} (h : VaS w v l) : ∃ a cap, v = .slice a l.length cap ∧ l.length ≤ 9223372036854775807 := by
  rcases h with ⟨a, cap, rfl, rfl⟩ | ⟨g, o, cap, rfl, h1, h2, -⟩
  · exact ⟨a, cap, rfl, by simp⟩
  · exact ⟨_, cap, rfl, by omega⟩
def doR (p : Va × Int) : Value := .tuple #[p.1.v, .int .i64 p.2]

set_option maxHeartbeats 1600000 in
theorem do_bad (op : Int) (l : List Va) (v : Value) (w : World) (hv : VaS w v l) (h : knownOp op l.length = false) :
    Calls Tryz.prog 36 #[.int .i64 op, v] w fun e w' => e = .returned (doR (zeroV, 2)) ∧ Below w.heap.size w w' := by
  obtain ⟨a, cap, rfl, hn⟩ := hv.shape
  unfold knownOp at h
  have HR := Lib.hid (ResV.made w 45)
  by_cases hr : 4 ≤ op ∧ op ≤ 22
  · have hd : decide (((opS op.toNat).n : Int) = (l.length : Int)) = false := by
      rw [decide_eq_false_iff_not]; intro e
      have : (opS op.toNat).n = l.length := by omega
      simp [hr, this] at h
    have C := Lib.hid (fun w1 => find_some op l.length w1 hr.1 hr.2)
    simp only [hd] at C
    clear h hr hd hv
    go_enter Tryz.func36, Tryz.ntmps36
    go_wp2_with fail
    refine (C.out _).mono ?_
    rintro e w1 ⟨kv, tv, dv, rfl, hok, hb⟩
    obtain ⟨gk, lk, ek, -⟩ := hok.kinds
    obtain ⟨gt, lt, et, -⟩ := hok.typed
    obtain ⟨gd, ld, ed, -⟩ := hok.res
    subst ek et ed
    have hlt : w.heap.size < w1.heap.size := by have := hb.size; simp at this; omega
    have hne : w.heap.size ≠ w1.heap.size := by omega
    obtain ⟨⟨r0, r1, r2, r3⟩, f0, f1, f2, f3⟩ := HR.out.later hb (by simp)
    have HB := Lib.hid (below_al hb)
    clear hok C hb HR
    go_wp2
    refine bodyPost_ret (by simp [results, Tryz.results36, go_sem, r0, r1, r2, r3, hlt]; try rfl) rfl ?_
    exact ⟨rfl, (below_set4 HB.out).alloc (by simp only [World.size_setCell]; exact Nat.le_of_lt hlt) _⟩
  · have C := Lib.hid (fun w1 => find_none op l.length w1 (by omega))
    clear h hr hv
    go_enter Tryz.func36, Tryz.ntmps36
    go_wp2_with fail
    refine (C.out _).mono ?_
    rintro e w1 ⟨rfl, hb⟩
    have hlt : w.heap.size < w1.heap.size := by have := hb.size; simp at this; omega
    have hne : w.heap.size ≠ w1.heap.size := by omega
    obtain ⟨⟨r0, r1, r2, r3⟩, f0, f1, f2, f3⟩ := HR.out.later hb (by simp)
    have HB := Lib.hid (below_al hb)
    clear C hb HR
    go_wp2
    refine bodyPost_ret (by simp [results, Tryz.results36, go_sem, r0, r1, r2, r3, hlt]; try rfl) rfl ?_
    exact ⟨rfl, (below_set4 HB.out).alloc (by simp only [World.size_setCell]; exact Nat.le_of_lt hlt) _⟩

/-- what Do knows behind find: the result's cell, the operation's cells, the operands -/
structure DoSt (w W : World) (g o cap g6 n : Nat) (l : List Va) (s : OpS) (kv tv dv : Value) : Prop where
  below : Below w.heap.size w W
  lt : w.heap.size < W.heap.size
  res : ResV W w.heap.size
  lt6 : g6 < W.heap.size
  ne6 : w.heap.size < g6
  ltg : g < w.heap.size
  fk : W.cell? ⟨g6, 1, none⟩ = some kv
  ff : W.cell? ⟨g6, 3, none⟩ = some (.bool s.free)
  fd : W.cell? ⟨g6, 4, none⟩ = some dv
  list : VaL W (.slice (some ⟨g, o, none⟩) n cap) l
  len : l.length = n
  elem : ∀ i x, l[i]? = some x → VaAt W g (o + i * 4) x
theorem DoSt.later {w W W' : World} {g o cap g6 n : Nat} {l : List Va} {s : OpS} {kv tv dv : Value} (h : DoSt w W g o cap g6 n l s kv tv dv) (hb : Below W.heap.size W W') : DoSt w W' g o cap g6 n l s kv tv dv :=
  ⟨below_keep h.below hb, Nat.lt_of_lt_of_le h.lt hb.size, h.res.later hb h.lt, Nat.lt_of_lt_of_le h.lt6 hb.size, h.ne6, h.ltg,
    (hb.cell (p := ⟨g6, 1, none⟩) h.lt6).trans h.fk, (hb.cell (p := ⟨g6, 3, none⟩) h.lt6).trans h.ff, (hb.cell (p := ⟨g6, 4, none⟩) h.lt6).trans h.fd, h.list.later hb, h.len, fun i x hx => (h.elem i x hx).later' hb⟩
end Go.Proofs.YtemhidlaaommaaaGreatDoor
