/- Lemmas and contracts, each under its own condition: A copy of a slice of values. Contract: Do. Contracts: Do, any operation and any values; the examples' small functions. -/
import Derived.Deep.AppendLies
import Derived.Deep.MidRow
import Derived.Test.YtemhidlaaommaaaGreatDoorD8
/- A copy of a slice of values. -/
namespace Go.Proofs.YtemhidlaaommaaaGreatDoor
open Go.RowKit

def cells4 (x : Va) : List Value := [.int .i64 x.kind, .int .i64 x.num, .int .i64 x.den, .string ⟨x.str.toArray⟩]
/-- the cells of a list of values -/
def newsL : List Va → List Value
  | [] => []
  | x :: l => cells4 x ++ newsL l
theorem newsL_len (l : List Va) : (newsL l).length = l.length * 4 := by
  induction l with
  | nil => rfl
  | cons x l ih => rw [newsL, List.length_append, ih, List.length_cons]; show 4 + _ = _; omega
theorem newsL_one (l : List Va) : ∀ u ∈ newsL l, u.oneCell' = true := by
  induction l with
  | nil => intro u hu; cases hu
  | cons x l ih =>
    intro u hu
    rw [newsL, List.mem_append] at hu
    rcases hu with hu | hu
    · simp only [cells4, List.mem_cons, List.not_mem_nil, or_false] at hu
      rcases hu with rfl | rfl | rfl | rfl <;> rfl
    · exact ih u hu
theorem newsL_get (l : List Va) (i : Nat) (x : Va) (hx : l[i]? = some x) : (newsL l)[i * 4]? = some (.int .i64 x.kind) ∧ (newsL l)[i * 4 + 1]? = some (.int .i64 x.num) ∧ (newsL l)[i * 4 + 2]? = some (.int .i64 x.den) ∧ (newsL l)[i * 4 + 3]? = some (.string ⟨x.str.toArray⟩) := by
  induction l generalizing i with
  | nil => simp at hx
  | cons y l ih =>
    cases i with
    | zero =>
      simp only [List.getElem?_cons_zero, Option.some.injEq] at hx
      subst hx
      exact ⟨rfl, rfl, rfl, rfl⟩
    | succ i =>
      rw [List.getElem?_cons_succ] at hx
      have h := ih i hx
      have e : ∀ r, (newsL (y :: l))[(i + 1) * 4 + r]? = (newsL l)[i * 4 + r]? := fun r => by
        rw [newsL, List.getElem?_append_right (by show 4 ≤ _; omega)]
        congr 1
        show _ - 4 = _; omega
      have e0 := e 0
      simp only [Nat.add_zero] at e0
      rw [e0, e 1, e 2, e 3]
      exact h
theorem newsL_cells {w : World} {g o : Nat} {l : List Va} (h : ∀ i x, l[i]? = some x → VaAt w g (o + i * 4) x) : ∀ j u, (newsL l)[j]? = some u → w.cell? ((⟨g, o, none⟩ : Addr).add j) = some u := by
  intro j u hu
  rw [Addr.add_mid]
  have hj : j < l.length * 4 := by rw [← newsL_len]; exact (List.getElem?_eq_some_iff.1 hu).1
  have hi : j / 4 < l.length := by omega
  obtain ⟨h0, h1, h2, h3⟩ := newsL_get l (j / 4) l[j / 4] (List.getElem?_eq_getElem hi)
  have hv := h (j / 4) l[j / 4] (List.getElem?_eq_getElem hi)
  have hr : j = j / 4 * 4 ∨ j = j / 4 * 4 + 1 ∨ j = j / 4 * 4 + 2 ∨ j = j / 4 * 4 + 3 := by omega
  rcases hr with e | e | e | e
  · rw [e] at hu ⊢
    rw [h0] at hu; rw [← hu]; exact hv.kind
  · rw [e] at hu ⊢
    rw [h1] at hu; rw [← hu, ← Nat.add_assoc]; exact hv.num
  · rw [e] at hu ⊢
    rw [h2] at hu; rw [← hu, ← Nat.add_assoc]; exact hv.den
  · rw [e] at hu ⊢
    rw [h3] at hu; rw [← hu, ← Nat.add_assoc]; exact hv.str
theorem own_list {w : World} {base b n cap : Nat} {e : TypeId} {l : List Va} (h : w.ownsRow base e 4 (.slice (some ⟨b, 0, none⟩) n cap) n (newsL l)) (hn : l.length = n) (hcap : maxLen ≤ 9223372036854775807) :
    VaL w (.slice (some ⟨b, 0, none⟩) l.length cap) l ∧ (∀ i, w.frozen? ⟨b, i, none⟩ = false) := by
  obtain ⟨-, h | ⟨g, c, cur, hv, hb, hh, hnc, hcm, hs, ht⟩⟩ := h
  · cases h.1
  · injection hv with e1 e2 e3
    injection e1 with e4
    injection e4 with e5
    subst e3 e5
    have hcell : ∀ j u, (newsL l)[j]? = some u → w.cell? ⟨b, j, none⟩ = some u := by
      intro j u hu
      rw [← ht] at hu
      have hj : j < n * 4 := by
        have := (List.getElem?_eq_some_iff.1 hu).1
        rw [List.length_take] at this; omega
      rw [List.getElem?_take_of_lt hj] at hu
      rw [cell_of_row w b j cur e (0, 0) hh]
      simpa using hu
    refine ⟨⟨b, 0, cap, rfl, by omega, by omega, fun i x hx => ?_⟩, fun i => ?_⟩
    · obtain ⟨h0, h1, h2, h3⟩ := newsL_get l i x hx
      rw [Nat.zero_add]
      exact ⟨hcell _ _ h0, hcell _ _ h1, hcell _ _ h2, hcell _ _ h3⟩
    · simp [World.frozen?, hh]
theorem info45 : (Tryz.prog.info? 45).map (fun i => (i.zero, i.size, i.bytes)) = some (some (.agg #[.int .i64 0, .int .i64 0, .int .i64 0, .string ⟨#[]⟩]), 4, 40) := by kernel_rfl
end Go.Proofs.YtemhidlaaommaaaGreatDoor
/- Contract: Do. -/
namespace Go.Proofs.YtemhidlaaommaaaGreatDoor
open Go.RowKit

theorem find_first {α : Type} {l : List α} {f : α → Bool} {k : Nat} {x : α} (h : (l.take k).find? f = none) (hx : l[k]? = some x) (hf : f x = true) : l.find? f = some x := by
  have hk : k < l.length := (List.getElem?_eq_some_iff.1 hx).1
  have e : l[k] = x := (List.getElem?_eq_some_iff.1 hx).2
  rw [← List.take_append_drop k l, List.find?_append, h, List.drop_eq_getElem_cons hk, e, List.find?_cons, hf]
  rfl
theorem find_next {α : Type} {l : List α} {f : α → Bool} {k : Nat} {x : α} (h : (l.take k).find? f = none) (hx : l[k]? = some x) (hf : f x = false) : (l.take (k + 1)).find? f = none := by
  have hk : k < l.length := (List.getElem?_eq_some_iff.1 hx).1
  have e : l[k] = x := (List.getElem?_eq_some_iff.1 hx).2
  rw [List.take_succ_eq_append_getElem hk, List.find?_append, h, e, List.find?_cons, hf]
  rfl

set_option maxHeartbeats 3200000 in
set_option maxRecDepth 100000 in
theorem do_good (op : Int) (l : List Va) (v : Value) (w : World) (hv : VaL w v l) (h : knownOp op l.length = true) :
    Calls Tryz.prog 36 #[.int .i64 op, v] w fun e w' => e = .returned (doR (doE op l)) ∧ Below w.heap.size w w' := by
  obtain ⟨R, hR⟩ : ∃ R : Ending → World → Prop, R = fun e w' => e = .returned (doR (doE op l)) ∧ Below w.heap.size w w' := ⟨_, rfl⟩
  rw [← hR]
  have HR := Lib.hid hR
  have HV := Lib.hid hv
  obtain ⟨g, o, cap, rfl, h1, h2, h3⟩ := hv
  have hkn := h
  unfold knownOp at h
  rw [Bool.and_eq_true, decide_eq_true_eq, decide_eq_true_eq] at h
  obtain ⟨⟨hr1, hr2⟩, hn⟩ := h
  have hn0 : 0 < l.length := by
    rw [← hn]
    have h4 : ∃ k, op.toNat = k ∧ 4 ≤ k ∧ k ≤ 22 := ⟨op.toNat, rfl, by omega, by omega⟩
    obtain ⟨k, h5, h6, h7⟩ := h4
    rw [h5]
    have : k = 4 ∨ k = 5 ∨ k = 6 ∨ k = 7 ∨ k = 8 ∨ k = 9 ∨ k = 10 ∨ k = 11 ∨ k = 12 ∨ k = 13 ∨ k = 14 ∨ k = 15 ∨ k = 16 ∨ k = 17 ∨ k = 18 ∨ k = 19 ∨ k = 20 ∨ k = 21 ∨ k = 22 := by omega
    rcases this with rfl | rfl | rfl | rfl | rfl | rfl | rfl | rfl | rfl | rfl | rfl | rfl | rfl | rfl | rfl | rfl | rfl | rfl | rfl <;> decide
  have hn3 : l.length ≤ 3 := by
    rw [← hn]
    have h4 : ∃ k, op.toNat = k ∧ 4 ≤ k ∧ k ≤ 22 := ⟨op.toNat, rfl, by omega, by omega⟩
    obtain ⟨k, h5, h6, h7⟩ := h4
    rw [h5]
    have : k = 4 ∨ k = 5 ∨ k = 6 ∨ k = 7 ∨ k = 8 ∨ k = 9 ∨ k = 10 ∨ k = 11 ∨ k = 12 ∨ k = 13 ∨ k = 14 ∨ k = 15 ∨ k = 16 ∨ k = 17 ∨ k = 18 ∨ k = 19 ∨ k = 20 ∨ k = 21 ∨ k = 22 := by omega
    rcases this with rfl | rfl | rfl | rfl | rfl | rfl | rfl | rfl | rfl | rfl | rfl | rfl | rfl | rfl | rfl | rfl | rfl | rfl | rfl <;> decide
  have HN0 := Lib.hid hn0
  have HN3 := Lib.hid hn3
  have hg : g < w.heap.size := (h3 0 _ (List.getElem?_eq_getElem hn0)).lt
  have C := Lib.hid (fun w1 => find_some op l.length w1 hr1 hr2)
  have hd : decide (((opS op.toNat).n : Int) = (l.length : Int)) = true := by rw [decide_eq_true_eq, hn]
  simp only [hd] at C
  obtain ⟨S, hS⟩ : ∃ S, opS op.toNat = S := ⟨_, rfl⟩
  rw [hS] at C hn
  have HE : Hid (doE op l = if l.all rightV = false then (zeroV, 2) else if S.kinds l = false then (zeroV, 12) else (resE S l, 0)) := by
    show _ = _
    unfold doE
    rw [hkn, hS]; rfl
  have HN := Lib.hid hn
  have HC := Lib.hid h3
  have HRV := Lib.hid (ResV.made w 45)
  obtain ⟨n, hln⟩ : ∃ n, l.length = n := ⟨_, rfl⟩
  rw [hln] at C HN h1 HN0 HN3
  simp only [hln] at HV ⊢
  have HL := Lib.hid hln
  have HG := Lib.hid hg
  clear h3 hkn hr1 hr2 hd hS hn hR hln hn0 hn3 hg
  go_enter Tryz.func36, Tryz.ntmps36
  go_wp2_with fail
  refine (C.out _).mono ?_
  rintro e w1 ⟨kv, tv, dv, rfl, hok, hb⟩
  have HB := Lib.hid (below_al hb)
  have HOK := Lib.hid hok
  obtain ⟨gk, lk, ek, hentk, -⟩ := hok.kinds
  obtain ⟨gt, lt, et, -⟩ := hok.typed
  obtain ⟨gd, ld, ed, hentd, -⟩ := hok.res
  subst ek et ed
  obtain ⟨W, hW⟩ : ∃ W, W = w1.alloc (.cells #[.int .i64 S.n, .func (.func gk) #[] lk, .func (.func gt) #[] lt, .bool S.free, .func (.func gd) #[] ld] 125) := ⟨_, rfl⟩
  have HWB : Hid (Below w1.heap.size w1 W) := by show Below _ _ _; rw [hW]; exact below_alloc _ _
  have hsz1 : w.heap.size < w1.heap.size := by have := hb.size; simp at this; omega
  have HBW : Hid (Below w.heap.size w W) := below_keep HB.out HWB.out
  have HST : Hid (DoSt w W g o cap w1.heap.size n l S (.func (.func gk) #[] lk) (.func (.func gt) #[] lt) (.func (.func gd) #[] ld)) := by
    refine ⟨HBW.out, ?_, (HRV.out.later hb (by simp)).later HWB.out hsz1, by rw [hW]; simp, hsz1, HG.out, ?_, ?_, ?_, HV.out.later HBW.out, HL.out, fun i x hx => (HC.out i x hx).later' HBW.out⟩
    · rw [hW]; simp; omega
    · rw [hW, World.cell?_alloc_at _ _ _ _ rfl]; rfl
    · rw [hW, World.cell?_alloc_at _ _ _ _ rfl]; rfl
    · rw [hW, World.cell?_alloc_at _ _ _ _ rfl]; rfl
  clear hok C hb HV HC HRV
  go_wp2
  rw [← hW]
  clear hW
  go_loopw [9, 24] (fun _ iv wr => ∃ k : Nat, k ≤ n ∧ iv = .int .i64 (k : Nat) ∧ Hid ((l.take k).all rightV = true) ∧ Hid (Below W.heap.size W wr)) (fun _ iv _ => n - (intOf iv).toNat)
  case atStart => exact ⟨0, Nat.zero_le _, rfl, rfl, Below.refl _ _⟩
  case round =>
    obtain ⟨k, hk, rfl, hall, hbr⟩ := hrel
    have HS := Lib.hid (HST.out.later hbr.out)
    by_cases hlt : k < n
    · obtain ⟨x, hx⟩ : ∃ x, l[k]? = some x := ⟨_, List.getElem?_eq_getElem (by rw [HL.out]; exact hlt)⟩
      obtain ⟨x0, x1, x2, x3⟩ := HS.out.elem k x hx
      have HX := Lib.hid hx
      have CR := Lib.hid (fun w9 => right_any x w9)
      clear hx
      cases hok : rightV x with
      | true =>
        have hst : Hid ((l.take (k + 1)).all rightV = true) := all_take_succ hall.out HX.out hok
        rw [hok] at CR
        clear hok
        go_wp2_with fail
        refine (CR.out _).mono ?_
        rintro e w2 ⟨rfl, hb2⟩
        have HB2 := Lib.hid (below_keep hbr.out (below_al hb2))
        clear hb2 CR
        go_wp2
        exact ⟨⟨k + 1, by omega, rfl, hst, HB2⟩, by show n - (k + 1) < n - k; omega⟩
      | false =>
        have hbad : Hid (l.all rightV = false) := by
          show _ = _
          rw [List.all_eq_false]
          exact ⟨x, List.mem_of_getElem? HX.out, by simp [hok]⟩
        rw [hok] at CR
        clear hok
        go_wp2_with fail
        refine (CR.out _).mono ?_
        rintro e w2 ⟨rfl, hb2⟩
        have HS2 := Lib.hid (HS.out.later (below_al hb2))
        obtain ⟨⟨r0, r1, r2, r3⟩, f0, f1, f2, f3⟩ := HS2.out.res
        have HE2 := HE.out
        rw [if_pos hbad.out] at HE2
        have HE3 := Lib.hid HE2
        clear hb2 CR HE2
        go_wp2
        refine bodyPost_ret (by simp [results, Tryz.results36, go_sem, r0, r1, r2, r3]; try rfl) rfl ?_
        rw [HR.out, HE3.out]
        exact ⟨rfl, below_set4 HS2.out.below⟩
    · obtain rfl : k = n := by omega
      have hall' : Hid (l.all rightV = true) := by
        show _ = _
        have := hall.out
        rwa [List.take_of_length_le (by rw [HL.out]; exact Nat.le_refl _)] at this
      have HE1 : Hid (doE op l = if S.kinds l = false then (zeroV, 12) else (resE S l, 0)) := by
        show _ = _
        rw [HE.out, if_neg (by rw [hall'.out]; simp)]
      have hfk := HS.out.fk
      have CK : Hid (∀ w1 v l, Below w.heap.size w w1 → VaL w1 v l → True) := fun _ _ _ _ _ => trivial
      clear CK
      obtain ⟨g2, l2, e2, -, hcon⟩ := HOK.out.kinds
      injection e2 with e3 e4 e5
      injection e3 with e6
      subst e5 e6
      have HCON := Lib.hid (hcon wr _ l (below_keep HWB.out hbr.out) HS.out.list (by rw [HL.out, HN.out]))
      clear hcon e4 hall HE
      cases hkb : S.kinds l with
      | false =>
        have HE2 := HE1.out
        rw [if_pos hkb] at HE2
        have HE3 := Lib.hid HE2
        rw [hkb] at HCON
        clear HE2 hkb HE1
        go_wp2_with fail
        refine HCON.out.mono ?_
        rintro e w2 ⟨rfl, hb2⟩
        have HS2 := Lib.hid (HS.out.later hb2)
        obtain ⟨⟨r0, r1, r2, r3⟩, f0, f1, f2, f3⟩ := HS2.out.res
        clear hb2
        go_wp2
        refine bodyPost_ret (by simp [results, Tryz.results36, go_sem, r0, r1, r2, r3]; try rfl) rfl ?_
        rw [HR.out, HE3.out]
        exact ⟨rfl, below_set4 HS2.out.below⟩
      | true =>
        have HE2 := HE1.out
        rw [if_neg (by rw [hkb]; simp)] at HE2
        have HE3 := Lib.hid HE2
        have HKB := Lib.hid hkb
        rw [hkb] at HCON
        clear HE2 hkb HE1
        go_wp2_with fail
        refine HCON.out.mono ?_
        rintro e w2 ⟨rfl, hb2⟩
        have HS2 := Lib.hid (HS.out.later hb2)
        have HB12' := Lib.hid (below_keep (below_keep HWB.out hbr.out) hb2)
        have hff := HS2.out.ff
        clear hb2 hfk HCON
        rcases hfr : S.free with _ | _
        · rw [hfr] at hff
          have HFR := Lib.hid hfr
          have HRE0 : Hid (resE S l = match l.find? (fun v => decide (v.kind = 0)) with | some v => v | none => S.res l) := by
            show _ = _; unfold resE; rw [if_neg (by rw [hfr]; simp)]; cases l.find? (fun v => decide (v.kind = 0)) <;> rfl
          clear hfr
          go_wp2
          go_loopw [11, 44] (fun _ iv wy => ∃ j : Nat, j ≤ k ∧ iv = .int .i64 (j : Nat) ∧ Hid ((l.take j).find? (fun v => decide (v.kind = 0)) = none) ∧ Hid (Below w2.heap.size w2 wy)) (fun _ iv _ => k - (intOf iv).toNat)
          case atStart => exact ⟨0, Nat.zero_le _, rfl, rfl, Below.refl _ _⟩
          case round =>
            obtain ⟨j, hj, rfl, hnf, hby⟩ := hrel
            have HSY := Lib.hid (HS2.out.later hby.out)
            by_cases hlt : j < k
            · obtain ⟨x, hx⟩ : ∃ x, l[j]? = some x := ⟨_, List.getElem?_eq_getElem (by rw [HL.out]; exact hlt)⟩
              obtain ⟨x0, x1, x2, x3⟩ := HSY.out.elem j x hx
              have HX := Lib.hid hx
              clear hx
              by_cases h0 : x.kind = 0
              · have e0 : (x.kind == 0) = true := by simpa using h0
                have HF : Hid (resE S l = x) := by
                  show _ = _
                  rw [HRE0.out, find_first hnf.out HX.out (by simpa using h0)]
                obtain ⟨⟨r0, r1, r2, r3⟩, f0, f1, f2, f3⟩ := HSY.out.res
                have hl1 := HSY.out.lt
                have hl2 : w.heap.size ≠ wr.heap.size := by omega
                clear h0
                go_wp2
                refine bodyPost_ret (by simp [results, Tryz.results36, go_sem, r0, r1, r2, r3, hl1]; try rfl) rfl ?_
                rw [HR.out, HE3.out, HF.out]
                exact ⟨rfl, (below_set4 HSY.out.below).alloc (by simp only [World.size_setCell]; exact Nat.le_of_lt hl1) _⟩
              · have e0 : (x.kind == 0) = false := by simpa using h0
                have hst : Hid ((l.take (j + 1)).find? (fun v => decide (v.kind = 0)) = none) := find_next hnf.out HX.out (by simpa using h0)
                have HBN : Hid (Below w2.heap.size w2 (wr.alloc (.cells #[.int .i64 x.kind, .int .i64 x.num, .int .i64 x.den, .string ⟨x.str.toArray⟩] 45))) := below_keep hby.out (below_alloc _ _)
                clear h0
                go_wp2
                exact ⟨⟨j + 1, by omega, rfl, hst, HBN⟩, by show k - (j + 1) < k - j; omega⟩
            · obtain rfl : k = j := by omega
              have hnone : Hid (l.find? (fun v => decide (v.kind = 0)) = none) := by
                show _ = _
                have := hnf.out
                rwa [List.take_of_length_le (by rw [HL.out]; exact Nat.le_refl _)] at this
              have HRE : Hid (resE S l = S.res l) := by show _ = _; rw [HRE0.out, hnone.out]
              have HBY := Lib.hid (below_keep HB12'.out hby.out)
              go_wp2_with fail
              have hfd := HSY.out.fd
              have hlt6 := HSY.out.lt6
              have hne6 : w1.heap.size ≠ wr.heap.size := by omega
              have KK : Hid (∀ w9, Below wr.heap.size wr w9 → (w9.cell? ⟨w1.heap.size, 4, none⟩ = some (.func (.func gd) #[] ld) ∧ Below w.heap.size w w9)) := fun w9 hb9 => ⟨(HSY.out.later hb9).fd, (HSY.out.later hb9).below⟩
              have KS : Hid (∀ (w9 : World) (a b c d : Value), Below wr.heap.size wr w9 → (((((w9.setCell ⟨w.heap.size, 0, none⟩ a).setCell ⟨w.heap.size, 1, none⟩ b).setCell ⟨w.heap.size, 2, none⟩ c).setCell ⟨w.heap.size, 3, none⟩ d).cell? ⟨w1.heap.size, 4, none⟩ = some (.func (.func gd) #[] ld) ∧ Below w.heap.size w ((((w9.setCell ⟨w.heap.size, 0, none⟩ a).setCell ⟨w.heap.size, 1, none⟩ b).setCell ⟨w.heap.size, 2, none⟩ c).setCell ⟨w.heap.size, 3, none⟩ d))) := fun w9 a b c d hb9 =>
                ⟨by
                  have hne : w.heap.size ≠ w1.heap.size := Nat.ne_of_lt HSY.out.ne6
                  have := (KK.out w9 hb9).1
                  rw [World.cell?_setCell_other, World.cell?_setCell_other, World.cell?_setCell_other, World.cell?_setCell_other]
                  · exact this
                  all_goals (intro e; injection e with e1; exact hne e1), below_set4 (KK.out w9 hb9).2⟩
              obtain ⟨i0, hi, hz0, hz1, hz2⟩ := info_parts info45
              have hbA : Below wr.heap.size wr (wr.alloc (.cells #[] 45)).drew := (Below.alloc (Below.refl _ _) (Nat.le_refl _) _).drew
              have HOWN : Hid ((wr.alloc (.cells #[] 45)).drew.ownsRow wr.heap.size 45 4 (.slice (some ⟨wr.heap.size, 0, none⟩) 0 0) 0 []) := by
                show World.ownsRow _ _ _ _ _ _ _
                exact World.ownsRow_made wr #[] 0 (Nat.le_refl _) (by decide) rfl
              have HNC : Hid (∀ j u, (newsL l)[j]? = some u → (wr.alloc (.cells #[] 45)).drew.cell? ((⟨g, o, none⟩ : Addr).add j) = some u) := newsL_cells (HSY.out.later hbA).elem
              have HNL : Hid ((newsL l).length = k * 4) := by show _ = _; rw [newsL_len, HL.out]
              obtain ⟨g9, l9, e9, -, hcd⟩ := HOK.out.res
              injection e9 with e10 e11 e12
              injection e10 with e13
              subst e12 e13
              have HCD : Hid (∀ w9 b cp, Below w1.heap.size w1 w9 → VaL w9 (.slice (some ⟨b, 0, none⟩) k cp) l → b < w9.heap.size → w1.heap.size ≤ b → (∀ i, w9.frozen? ⟨b, i, none⟩ = false) → Calls Tryz.prog gd (#[.slice (some ⟨b, 0, none⟩) k cp] ++ ld) w9 (RetX b (S.res l) w9)) := by
                intro w9 b cp k1 k2 k3 k4 k5
                have := hcd w9 b cp l k1 (by rw [HL.out]; exact k2) k3 k4 k5 (by rw [HL.out, HN.out]) hall'.out HKB.out (fun _ => hnone.out)
                rwa [HL.out] at this
              have HB12 : Hid (Below w1.heap.size w1 wr) := HBY.out
              clear hcd e11
              go_region_held3 (fun w' => w'.cell? ⟨w1.heap.size, 4, none⟩ = some (.func (.func gd) #[] ld) ∧ Below w.heap.size w w')
                (first | exact KK.out _ (by with_reducible assumption) | exact KK.out _ (Below.refl _ _) | exact KK.out _ (Below.drew (Below.refl _ _)) | exact KK.out _ (Below.alloc (Below.drew (Below.refl _ _)) (Nat.le_refl _) _) | exact KS.out _ _ _ _ _ hb4)
                (first
                  | (refine step_append_lies _ rfl _ _ 48 rfl wr.heap.size 45 i0 (.agg #[.int .i64 0, .int .i64 0, .int .i64 0, .string ⟨#[]⟩]) 4 40 Tryz.underlying48 hi hz0 hz1 hz2 rfl (by decide) _ 0 [] rfl HOWN.out ⟨g, o, none⟩ k cap (newsL l) rfl HNL.out HNC.out (newsL_one l) HN0.out (by have := HN3.out; unfold maxLen; omega) (by have := HN3.out; omega) hbA.size _ rfl ?_
                     intro b cp w3 hown3 hgrow3 hat3 hlt3
                     simp only [Nat.zero_add, List.nil_append] at hown3 ⊢
                     have hbb : wr.heap.size ≤ b := by
                       rcases hat3 with h | h
                       · exact Nat.le_of_eq (Option.some.inj h)
                       · rw [h]; exact hbA.size
                     have hb3 : Below wr.heap.size wr w3 := hbA.grown hgrow3 hbA.size (fun j hj => Nat.le_of_eq (Option.some.inj hj))
                     have hol := own_list hown3 HL.out (by decide)
                     rw [HL.out] at hol
                     have HCALL := Lib.hid (HCD.out w3 b cp (below_keep HB12.out hb3) hol.1 hlt3 (Nat.le_trans HB12.out.size hbb) hol.2)
                     clear hown3 hgrow3 hat3 hol)
                  | (refine HCALL.out.mono ?_
                     rintro e w4 ⟨rfl, hb4'⟩
                     have hb4 : Below wr.heap.size wr w4 := hb3.trans (hb4'.mono hbb)
                     obtain ⟨⟨r0, r1, r2, r3⟩, f0, f1, f2, f3⟩ := (HSY.out.later hb4).res
                     clear hb4' HCALL))
              go_wp2
              refine bodyPost_ret (by simp [results, Tryz.results36, go_sem, r0, r1, r2, r3]; try rfl) rfl ?_
              rw [HR.out, HE3.out, HRE.out]
              exact ⟨rfl, below_set4 (HSY.out.later hb4).below⟩
        · rw [hfr] at hff
          have HFR := Lib.hid hfr
          have HRE : Hid (resE S l = S.res l) := by show _ = _; unfold resE; rw [if_pos hfr]
          clear hfr
          go_wp2_with fail
          have hfd := HS2.out.fd
          have hlt6 := HS2.out.lt6
          have hne6 : w1.heap.size ≠ w2.heap.size := by omega
          have KK : Hid (∀ w9, Below w2.heap.size w2 w9 → (w9.cell? ⟨w1.heap.size, 4, none⟩ = some (.func (.func gd) #[] ld) ∧ Below w.heap.size w w9)) := fun w9 hb9 => ⟨(HS2.out.later hb9).fd, (HS2.out.later hb9).below⟩
          have KS : Hid (∀ (w9 : World) (a b c d : Value), Below w2.heap.size w2 w9 → (((((w9.setCell ⟨w.heap.size, 0, none⟩ a).setCell ⟨w.heap.size, 1, none⟩ b).setCell ⟨w.heap.size, 2, none⟩ c).setCell ⟨w.heap.size, 3, none⟩ d).cell? ⟨w1.heap.size, 4, none⟩ = some (.func (.func gd) #[] ld) ∧ Below w.heap.size w ((((w9.setCell ⟨w.heap.size, 0, none⟩ a).setCell ⟨w.heap.size, 1, none⟩ b).setCell ⟨w.heap.size, 2, none⟩ c).setCell ⟨w.heap.size, 3, none⟩ d))) := fun w9 a b c d hb9 =>
            ⟨by
              have hne : w.heap.size ≠ w1.heap.size := Nat.ne_of_lt HS2.out.ne6
              have := (KK.out w9 hb9).1
              rw [World.cell?_setCell_other, World.cell?_setCell_other, World.cell?_setCell_other, World.cell?_setCell_other]
              · exact this
              all_goals (intro e; injection e with e1; exact hne e1), below_set4 (KK.out w9 hb9).2⟩
          obtain ⟨i0, hi, hz0, hz1, hz2⟩ := info_parts info45
          have hbA : Below w2.heap.size w2 (w2.alloc (.cells #[] 45)).drew := (Below.alloc (Below.refl _ _) (Nat.le_refl _) _).drew
          have HOWN : Hid ((w2.alloc (.cells #[] 45)).drew.ownsRow w2.heap.size 45 4 (.slice (some ⟨w2.heap.size, 0, none⟩) 0 0) 0 []) := by
            show World.ownsRow _ _ _ _ _ _ _
            exact World.ownsRow_made w2 #[] 0 (Nat.le_refl _) (by decide) rfl
          have HNC : Hid (∀ j u, (newsL l)[j]? = some u → (w2.alloc (.cells #[] 45)).drew.cell? ((⟨g, o, none⟩ : Addr).add j) = some u) := newsL_cells (HS2.out.later hbA).elem
          have HNL : Hid ((newsL l).length = k * 4) := by show _ = _; rw [newsL_len, HL.out]
          obtain ⟨g9, l9, e9, -, hcd⟩ := HOK.out.res
          injection e9 with e10 e11 e12
          injection e10 with e13
          subst e12 e13
          have HCD : Hid (∀ w9 b cp, Below w1.heap.size w1 w9 → VaL w9 (.slice (some ⟨b, 0, none⟩) k cp) l → b < w9.heap.size → w1.heap.size ≤ b → (∀ i, w9.frozen? ⟨b, i, none⟩ = false) → Calls Tryz.prog gd (#[.slice (some ⟨b, 0, none⟩) k cp] ++ ld) w9 (RetX b (S.res l) w9)) := by
            intro w9 b cp k1 k2 k3 k4 k5
            have := hcd w9 b cp l k1 (by rw [HL.out]; exact k2) k3 k4 k5 (by rw [HL.out, HN.out]) hall'.out HKB.out (fun hf => by rw [HFR.out] at hf; cases hf)
            rwa [HL.out] at this
          have HB12 : Hid (Below w1.heap.size w1 w2) := HB12'.out
          clear hcd e11
          go_region_held3 (fun w' => w'.cell? ⟨w1.heap.size, 4, none⟩ = some (.func (.func gd) #[] ld) ∧ Below w.heap.size w w')
            (first | exact KK.out _ (by with_reducible assumption) | exact KK.out _ (Below.refl _ _) | exact KK.out _ (Below.drew (Below.refl _ _)) | exact KK.out _ (Below.alloc (Below.drew (Below.refl _ _)) (Nat.le_refl _) _) | exact KS.out _ _ _ _ _ hb4)
            (first
              | (refine step_append_lies _ rfl _ _ 48 rfl w2.heap.size 45 i0 (.agg #[.int .i64 0, .int .i64 0, .int .i64 0, .string ⟨#[]⟩]) 4 40 Tryz.underlying48 hi hz0 hz1 hz2 rfl (by decide) _ 0 [] rfl HOWN.out ⟨g, o, none⟩ k cap (newsL l) rfl HNL.out HNC.out (newsL_one l) HN0.out (by have := HN3.out; unfold maxLen; omega) (by have := HN3.out; omega) hbA.size _ rfl ?_
                 intro b cp w3 hown3 hgrow3 hat3 hlt3
                 simp only [Nat.zero_add, List.nil_append] at hown3 ⊢
                 have hbb : w2.heap.size ≤ b := by
                   rcases hat3 with h | h
                   · exact Nat.le_of_eq (Option.some.inj h)
                   · rw [h]; exact hbA.size
                 have hb3 : Below w2.heap.size w2 w3 := hbA.grown hgrow3 hbA.size (fun j hj => Nat.le_of_eq (Option.some.inj hj))
                 have hol := own_list hown3 HL.out (by decide)
                 rw [HL.out] at hol
                 have HCALL := Lib.hid (HCD.out w3 b cp (below_keep HB12.out hb3) hol.1 hlt3 (Nat.le_trans HB12.out.size hbb) hol.2)
                 clear hown3 hgrow3 hat3 hol)
              | (refine HCALL.out.mono ?_
                 rintro e w4 ⟨rfl, hb4'⟩
                 have hb4 : Below w2.heap.size w2 w4 := hb3.trans (hb4'.mono hbb)
                 obtain ⟨⟨r0, r1, r2, r3⟩, f0, f1, f2, f3⟩ := (HS2.out.later hb4).res
                 clear hb4' HCALL))
          go_wp2
          refine bodyPost_ret (by simp [results, Tryz.results36, go_sem, r0, r1, r2, r3]; try rfl) rfl ?_
          rw [HR.out, HE3.out, HRE.out]
          exact ⟨rfl, below_set4 (HS2.out.later hb4).below⟩
end Go.Proofs.YtemhidlaaommaaaGreatDoor
/- Contracts: Do, any operation and any values; the examples' small functions. -/
namespace Go.Proofs.YtemhidlaaommaaaGreatDoor
open Go.RowKit

theorem known_ne {op : Int} (h : knownOp op 0 = true) : False := by
  unfold knownOp at h
  rw [Bool.and_eq_true, decide_eq_true_eq, decide_eq_true_eq] at h
  obtain ⟨⟨h1, h2⟩, h3⟩ := h
  have h4 : ∃ k, op.toNat = k ∧ 4 ≤ k ∧ k ≤ 22 := ⟨op.toNat, rfl, by omega, by omega⟩
  obtain ⟨k, h5, h6, h7⟩ := h4
  rw [h5] at h3
  revert h3
  have : k = 4 ∨ k = 5 ∨ k = 6 ∨ k = 7 ∨ k = 8 ∨ k = 9 ∨ k = 10 ∨ k = 11 ∨ k = 12 ∨ k = 13 ∨ k = 14 ∨ k = 15 ∨ k = 16 ∨ k = 17 ∨ k = 18 ∨ k = 19 ∨ k = 20 ∨ k = 21 ∨ k = 22 := by omega
  rcases this with rfl | rfl | rfl | rfl | rfl | rfl | rfl | rfl | rfl | rfl | rfl | rfl | rfl | rfl | rfl | rfl | rfl | rfl | rfl <;> decide
theorem do_any (op : Int) (l : List Va) (v : Value) (w : World) (hv : VaS w v l) :
    Calls Tryz.prog 36 #[.int .i64 op, v] w fun e w' => e = .returned (doR (doE op l)) ∧ Below w.heap.size w w' := by
  cases h : knownOp op l.length with
  | false =>
    have e : doE op l = (zeroV, 2) := by unfold doE; rw [if_pos h]
    rw [e]
    exact do_bad op l v w hv h
  | true =>
    rcases hv with ⟨_, _, rfl, rfl⟩ | hv
    · exact (known_ne h).elim
    · exact do_good op l v w hv h

theorem num_any (n d : Int) (w : World) :
    Calls Tryz.prog 68 #[.int .i64 n, .int .i64 d] w fun e w' => e = .returned (Va.v ⟨2, n, d, []⟩) ∧ Below w.heap.size w w' := by
  go_enter Tryz.func68, Tryz.ntmps68
  go_wp2
  go_returns
  exact ⟨rfl, below_alloc _ _⟩
theorem text_of (s : ByteArray) (w : World) :
    Calls Tryz.prog 69 #[.string s] w fun e w' => e = .returned (.agg #[.int .i64 3, .int .i64 0, .int .i64 0, .string s]) ∧ Below w.heap.size w w' := by
  go_enter Tryz.func69, Tryz.ntmps69
  go_wp2
  go_returns
  exact ⟨rfl, below_alloc _ _⟩
theorem none_any (r : Int) (w : World) :
    Calls Tryz.prog 48 #[.int .i64 r] w fun e w' => e = .returned (missV r).v ∧ Below w.heap.size w w' := by
  go_enter Tryz.func48, Tryz.ntmps48
  go_wp2
  go_returns
  exact ⟨rfl, below_alloc _ _⟩
theorem truthL_any (n : Int) (w : World) :
    Calls Tryz.prog 47 #[.int .i64 n] w fun e w' => e = .returned (Va.v ⟨1, n, 0, []⟩) ∧ Below w.heap.size w w' := by
  go_enter Tryz.func47, Tryz.ntmps47
  go_wp2
  go_returns
  exact ⟨rfl, below_alloc _ _⟩
end Go.Proofs.YtemhidlaaommaaaGreatDoor
