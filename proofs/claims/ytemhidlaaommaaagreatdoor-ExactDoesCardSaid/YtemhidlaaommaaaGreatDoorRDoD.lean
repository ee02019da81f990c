/- The reference's operations: contract of Do. (printed by gen_rdo.py) -/
import Derived.Deep.RegionHeld3
import Derived.Test.YtemhidlaaommaaaGreatDoorRDoA
import Derived.Test.YtemhidlaaommaaaGreatDoorRDoB
import Derived.Test.YtemhidlaaommaaaGreatDoorRDoC
import Derived.Test.YtemhidlaaommaaaGreatDoorRDoP
import Derived.Test.YtemhidlaaommaaaGreatDoorRefW
namespace Go.Proofs.YtemhidlaaommaaaGreatDoor
open Go.RowKit

set_option maxHeartbeats 1600000 in
theorem rspecial_none (op : Int) (v : Value) (w : World) (h7 : (op == (7 : Int)) = false) (h8 : (op == (8 : Int)) = false) (h19 : (op == (19 : Int)) = false) (h20 : (op == (20 : Int)) = false) (h21 : (op == (21 : Int)) = false) (h22 : (op == (22 : Int)) = false) :
    Calls Tryz.prog 101 #[.int .i64 op, v] w (RetV (.tuple #[zeroV.v, .bool false]) w) := by
  have HB := Lib.hid (below_alloc w (.cells #[.int .i64 0, .int .i64 0, .int .i64 0, .string ⟨#[]⟩] 45))
  go_enter Tryz.func101, Tryz.ntmps101
  go_wp2
  refine bodyPost_ret (by simp [results, Tryz.results101, go_sem]; try rfl) rfl ?_
  exact ⟨rfl, HB.out⟩
set_option maxRecDepth 100000 in
theorem rspecial_any (op : Int) (l : List Va) (v : Value) (w : World) (hv : VaL w v l) (h : knownOp op l.length = true) (hr : l.all rightV = true) (hk : (opS op.toNat).kinds l = true) :
    Calls Tryz.prog 101 #[.int .i64 op, v] w (RetV (.tuple #[(spcE op l).1.v, .bool (spcE op l).2]) w) := by
  unfold knownOp at h
  rw [Bool.and_eq_true, decide_eq_true_eq, decide_eq_true_eq] at h
  obtain ⟨hop, hn⟩ := h
  rcases op_ways hop with rfl | rfl | rfl | rfl | rfl | rfl | rfl | rfl | rfl | rfl | rfl | rfl | rfl | rfl | rfl | rfl | rfl | rfl | rfl
  · skip
    exact rspecial_none 4 v w rfl rfl rfl rfl rfl rfl
  · skip
    exact rspecial_none 5 v w rfl rfl rfl rfl rfl rfl
  · skip
    exact rspecial_none 6 v w rfl rfl rfl rfl rfl rfl
  · skip
    obtain ⟨a, rfl⟩ := len1 (show l.length = 1 from hn.symm)
    obtain ⟨g, o, n, cap, rfl, h0, -, -⟩ := hv.first
    obtain rfl : n = 0 := by
      obtain ⟨g', o', cap', e, -⟩ := hv
      injection e with _ e2 _
      simpa using e2
    by_cases e : a.kind = 0
    · have e2 : spcE 7 [a] = (truthV true, true) := by show (missR [a], true) = _; simp [missR, e]
      rw [e2]; exact rspecial_7z a g o cap w h0 (by rw [e]; rfl)
    · have e2 : spcE 7 [a] = (truthV false, true) := by show (missR [a], true) = _; simp [missR, e]
      rw [e2]; exact rspecial_7n a g o cap w h0 (by rw [beq_eq_false_iff_ne]; exact e)
  · skip
    obtain ⟨a, rfl⟩ := len1 (show l.length = 1 from hn.symm)
    obtain ⟨g, o, n, cap, rfl, h0, -, -⟩ := hv.first
    obtain rfl : n = 0 := by
      obtain ⟨g', o', cap', e, -⟩ := hv
      injection e with _ e2 _
      simpa using e2
    by_cases e : a.kind = 0
    · have e2 : spcE 8 [a] = (⟨2, a.num, 1, []⟩, true) := by show (reasonR [a], true) = _; simp [reasonR, e]
      rw [e2]; exact rspecial_8z a g o cap w h0 (by rw [e]; rfl)
    · have e2 : spcE 8 [a] = (⟨2, 0, 1, []⟩, true) := by show (reasonR [a], true) = _; simp [reasonR, e]
      rw [e2]; exact rspecial_8n a g o cap w h0 (by rw [beq_eq_false_iff_ne]; exact e)
  · skip
    exact rspecial_none 9 v w rfl rfl rfl rfl rfl rfl
  · skip
    exact rspecial_none 10 v w rfl rfl rfl rfl rfl rfl
  · skip
    exact rspecial_none 11 v w rfl rfl rfl rfl rfl rfl
  · skip
    exact rspecial_none 12 v w rfl rfl rfl rfl rfl rfl
  · skip
    exact rspecial_none 13 v w rfl rfl rfl rfl rfl rfl
  · skip
    exact rspecial_none 14 v w rfl rfl rfl rfl rfl rfl
  · skip
    exact rspecial_none 15 v w rfl rfl rfl rfl rfl rfl
  · skip
    exact rspecial_none 16 v w rfl rfl rfl rfl rfl rfl
  · skip
    exact rspecial_none 17 v w rfl rfl rfl rfl rfl rfl
  · skip
    exact rspecial_none 18 v w rfl rfl rfl rfl rfl rfl
  · skip
    obtain ⟨a, b, rfl⟩ := len2 (show l.length = 2 from hn.symm)
    obtain ⟨g, o, cap, rfl, h0, h1, -, -⟩ := hv.two
    have e0 : spcE 19 [a, b] = (truthV false, decide (a = truthV false ∨ b = truthV false)) := rfl
    rw [e0]
    by_cases ha : a = truthV false
    · rw [decide_eq_true (.inl ha)]; exact rspecial_19t a b g o cap w h0 h1 ha
    · by_cases hb : b = truthV false
      · rw [decide_eq_true (.inr hb)]; exact rspecial_19ft a b g o cap w h0 h1 ha hb
      · rw [decide_eq_false (fun h => h.elim ha hb)]; exact rspecial_19ff a b g o cap w h0 h1 ha hb
  · skip
    obtain ⟨a, b, rfl⟩ := len2 (show l.length = 2 from hn.symm)
    obtain ⟨g, o, cap, rfl, h0, h1, -, -⟩ := hv.two
    have e0 : spcE 20 [a, b] = (truthV true, decide (a = truthV true ∨ b = truthV true)) := rfl
    rw [e0]
    by_cases ha : a = truthV true
    · rw [decide_eq_true (.inl ha)]; exact rspecial_20t a b g o cap w h0 h1 ha
    · by_cases hb : b = truthV true
      · rw [decide_eq_true (.inr hb)]; exact rspecial_20ft a b g o cap w h0 h1 ha hb
      · rw [decide_eq_false (fun h => h.elim ha hb)]; exact rspecial_20ff a b g o cap w h0 h1 ha hb
  · skip
    obtain ⟨a, b, rfl⟩ := len2 (show l.length = 2 from hn.symm)
    obtain ⟨g, o, cap, rfl, h0, h1, -, -⟩ := hv.two
    by_cases e : a.kind = 0
    · have e2 : spcE 21 [a, b] = (b, true) := by show (elseR [a, b], true) = _; simp [elseR, e]
      rw [e2]; exact rspecial_21z a b g o cap w h0 h1 (by rw [e]; rfl)
    · have e2 : spcE 21 [a, b] = (a, true) := by show (elseR [a, b], true) = _; simp [elseR, e]
      rw [e2]; exact rspecial_21n a b g o cap w h0 h1 (by rw [beq_eq_false_iff_ne]; exact e)
  · skip
    obtain ⟨a, b, c, rfl⟩ := len3 (show l.length = 3 from hn.symm)
    obtain ⟨g, o, cap, rfl, h0, h1, h2, -, -⟩ := hv.three
    by_cases e : a.kind = 0
    · have e2 : spcE 22 [a, b, c] = (a, true) := by show (ifR [a, b, c], true) = _; simp [ifR, e]
      rw [e2]; exact rspecial_22z a b c g o cap w h0 h1 h2 (by rw [e]; rfl)
    · have hka : isK a 1 = true := by
        have : (isK a 1 && lastAlike [a, b, c]) = true := hk
        rw [Bool.and_eq_true] at this; exact this.1
      obtain ⟨d, rfl⟩ := truthOf (all_at (i := 0) hr rfl) hka e
      cases d with
      | true => exact rspecial_22t b c g o cap w h0 h1 h2
      | false => exact rspecial_22f b c g o cap w h0 h1 h2

theorem op_left {op : Int} {l : List Va} (h : 4 ≤ op ∧ op ≤ 22) (hs : (spcE op l).2 = false) : op = 4 ∨ op = 5 ∨ op = 6 ∨ op = 19 ∨ op = 20 ∨ op = 13 ∨ op = 14 ∨ op = 15 ∨ op = 16 ∨ op = 17 ∨ op = 18 ∨ (9 ≤ op ∧ op ≤ 12) := by
  have h7 : op ≠ 7 := by rintro rfl; exact absurd (show true = false from hs) (by decide)
  have h8 : op ≠ 8 := by rintro rfl; exact absurd (show true = false from hs) (by decide)
  have h21 : op ≠ 21 := by rintro rfl; exact absurd (show true = false from hs) (by decide)
  have h22 : op ≠ 22 := by rintro rfl; exact absurd (show true = false from hs) (by decide)
  omega
theorem VaAt.setFar {w : World} {g o r : Nat} {x : Va} (h : VaAt w g o x) (hne : g ≠ r) (z0 z1 z2 z3 : Value) : VaAt (setV w r z0 z1 z2 z3) g o x := by
  have key : ∀ i, (setV w r z0 z1 z2 z3).cell? ⟨g, i, none⟩ = w.cell? ⟨g, i, none⟩ := fun i => by
    rw [World.cell?_setCell_other _ _ _ _ (fun e => hne (by injection e with e1; exact e1.symm)), World.cell?_setCell_other _ _ _ _ (fun e => hne (by injection e with e1; exact e1.symm)), World.cell?_setCell_other _ _ _ _ (fun e => hne (by injection e with e1; exact e1.symm)), World.cell?_setCell_other _ _ _ _ (fun e => hne (by injection e with e1; exact e1.symm))]
  exact ⟨(key _).trans h.kind, (key _).trans h.num, (key _).trans h.den, (key _).trans h.str⟩
/-- what a call of Do knows of a later world: the operands lie there, the result is not yet written -/
structure RSt (w wr : World) (g o n cap : Nat) (l : List Va) : Prop where
  below : Below w.heap.size w wr
  res : ResV wr w.heap.size
  list : VaL wr (.slice (some ⟨g, o, none⟩) n cap) l
  elem : ∀ i x, l[i]? = some x → VaAt wr g (o + i * 4) x
theorem RSt.later {w wr w2 : World} {g o n cap : Nat} {l : List Va} (h : RSt w wr g o n cap l) (hb : Below wr.heap.size wr w2) : RSt w w2 g o n cap l :=
  ⟨below_keep h.below hb, h.res.later hb (World.block_lt_of_cell? _ _ h.res.box.kind), h.list.later hb, fun i x hx => (h.elem i x hx).later' hb⟩

/-- any number that a right value is, or is not -/
def RetNm (x : Va) (w : World) (e : Ending) (w' : World) : Prop := ∃ b a1 n1 c1 a2 n2 c2 f, e = .returned (.tuple #[.agg #[.bool b, .slice a1 n1 c1, .slice a2 n2 c2], .bool f]) ∧ (x.kind = 2 → Q9 w' (.agg #[.bool b, .slice a1 n1 c1, .slice a2 n2 c2]) (qOf x)) ∧ Below w.heap.size w w'
theorem rnumber_any (x : Va) (hx : rightV x = true) (w : World) : Calls Tryz.prog 58 #[x.v] w (RetNm x w) := by
  by_cases hk : x.kind = 2
  · obtain ⟨q, hq, rfl⟩ := ratOf hx (by unfold isK; rw [decide_eq_true_eq]; exact .inr hk) (by omega)
    refine (rnumber_good q hq w).mono ?_
    rintro e w' ⟨v, rfl, ⟨vn, vd, rfl, hn, hd⟩, hb⟩
    obtain ⟨a1, n1, c1, rfl, -⟩ := hn.shape (by decide)
    obtain ⟨a2, n2, c2, rfl, -⟩ := hd.shape (by decide)
    exact ⟨_, _, _, _, _, _, _, _, rfl, fun _ => by rw [qOf_ratV]; exact ⟨_, _, rfl, hn, hd⟩, hb⟩
  · refine (rnumber_bad x w ?_ (.inr ⟨hx, hk⟩)).mono ?_
    · rcases right_cases hx with ⟨r, _, _, rfl⟩ | ⟨b, rfl⟩ | ⟨q, hq, rfl⟩ | ⟨s, h1, _, rfl⟩
      · simp
      · simp
      · simp
      · show s.length ≤ _; omega
    · rintro e w' ⟨rfl, hb⟩
      exact ⟨_, _, _, _, _, _, _, _, rfl, fun h => absurd h hk, hb⟩
theorem rarith_any (op : Int) (l : List Va) (a b : Va) (w : World) (hop : 9 ≤ op ∧ op ≤ 12) (ha : l[0]? = some a) (hb : l[1]? = some b) (hr : l.all rightV = true) (hk : (opS op.toNat).kinds l = true) (hf : l.find? (fun v => decide (v.kind = 0)) = none)
    (x y : Value) (hx : a.kind = 2 → Q9 w x (qOf a)) (hy : b.kind = 2 → Q9 w y (qOf b)) :
    Calls Tryz.prog 103 #[.int .i64 op, x, y] w (RetV (tailE op l).v w) := by
  have hka : allK 2 l = true := by rcases (by omega : op = 9 ∨ op = 10 ∨ op = 11 ∨ op = 12) with rfl | rfl | rfl | rfl <;> exact hk
  obtain ⟨p, hp, rfl⟩ := ratOf (all_at hr ha) (all_at (f := (isK · 2)) hka ha) (find_kind hf ha)
  obtain ⟨q, hq, rfl⟩ := ratOf (all_at hr hb) (all_at (f := (isK · 2)) hka hb) (find_kind hf hb)
  have hx := hx rfl
  have hy := hy rfl
  have e1 : ∀ f : Rat → Rat → Rat, arithR f l = valQ (f p q) := fun f => by unfold arithR; rw [vat_at ha, vat_at hb, qOf_ratV, qOf_ratV]
  rw [qOf_ratV] at hx hy
  rcases (by omega : op = 9 ∨ op = 10 ∨ op = 11 ∨ op = 12) with rfl | rfl | rfl | rfl
  · show Calls _ _ _ _ (RetV (arithR (· + ·) l).v w)
    rw [e1]; exact rarith_9 hx hy hp.bd hq.bd (by omega)
  · show Calls _ _ _ _ (RetV (arithR (· - ·) l).v w)
    rw [e1]; exact rarith_10 hx hy hp.bd hq.bd (by omega)
  · show Calls _ _ _ _ (RetV (arithR (· * ·) l).v w)
    rw [e1]; exact rarith_11 hx hy hp.bd hq.bd (by omega)
  · show Calls _ _ _ _ (RetV (divR l).v w)
    unfold divR
    rw [vat_at ha, vat_at hb, qOf_ratV, qOf_ratV]
    by_cases h0 : q = 0
    · rw [if_pos h0]; exact rarith_12z hx hy hp.bd hq.bd (by omega) h0
    · rw [if_neg h0]; exact rarith_12n hx hy hp.bd hq.bd (by omega) h0

set_option maxRecDepth 100000 in
theorem rdo_bad (op : Int) (a : Option Addr) (n cap : Nat) (w : World) (h : operN op = 0 ∨ (0 < operN op ∧ n ≠ operN op)) :
    Calls Tryz.prog 37 #[.int .i64 op, .slice a n cap] w (RetV (.tuple #[zeroV.v, .int .i64 2]) w) := by
  have C := Lib.hid (operands_any op)
  have HB := Lib.hid (below_alloc w (.cells #[.int .i64 0, .int .i64 0, .int .i64 0, .string ⟨#[]⟩] 45))
  obtain ⟨m, hm⟩ : ∃ m, m = operN op := ⟨_, rfl⟩
  rw [← hm] at C h
  have h' : ((m : Int) == 0) = true ∨ (((m : Int) == 0) = false ∧ ((n : Int) != (m : Int)) = true) := by
    rcases h with h | ⟨h1, h2⟩
    · left; rw [h]; rfl
    · right; refine ⟨by rw [beq_eq_false_iff_ne]; omega, ?_⟩; rw [bne_iff_ne]; omega
  clear h hm
  rcases h' with h1 | ⟨h1, h2⟩
  all_goals
    go_enter Tryz.func37, Tryz.ntmps37
    go_wp2_with (go_at_call 99; refine (C.out _).mono ?_; rintro e w' ⟨rfl, rfl⟩)
    refine bodyPost_ret (by simp [results, Tryz.results37, go_sem]; try rfl) rfl ?_
    exact ⟨rfl, HB.out⟩

set_option maxHeartbeats 64000000 in
set_option maxRecDepth 100000 in
theorem rdo_good (op : Int) (l : List Va) (v : Value) (w : World) (hv : VaL w v l) (h : knownOp op l.length = true) (hs : ∀ x ∈ l, x.str.length ≤ 9223372036854775807) :
    Calls Tryz.prog 37 #[.int .i64 op, v] w (RetV (doR (doE op l)) w) := by
  have HE : Hid (doE op l = if l.all rightV = false then (zeroV, 2) else if (opS op.toNat).kinds l = false then (zeroV, 12) else (resE (opS op.toNat) l, 0)) := by
    show _ = _
    unfold doE; rw [if_neg (by rw [h]; decide)]
  have CO := Lib.hid (operands_any op)
  have CK := Lib.hid (fun w1 (h' : VaL w1 v l) => rkinds_any op l v w1 h' h)
  have CS := Lib.hid (fun w1 (h' : VaL w1 v l) => rspecial_any op l v w1 h' h)
  have HSL := Lib.hid hs
  have hop : 4 ≤ op ∧ op ≤ 22 := by
    unfold knownOp at h
    rw [Bool.and_eq_true, decide_eq_true_eq, decide_eq_true_eq] at h
    exact h.1
  have hk0 := operN_pos hop
  have hn : operN op = l.length := by
    have hl : 0 < l.length := by
      rcases Nat.eq_zero_or_pos l.length with e | e
      · rw [e] at h
        unfold knownOp at h
        rw [Bool.and_eq_true, decide_eq_true_eq, decide_eq_true_eq] at h
        have h2 := h.2
        unfold operN at hk0; rw [if_pos hop] at hk0; omega
      · exact e
    rw [operN_eq op _ hl, decide_eq_true_eq] at h; exact h
  rw [hn] at CO hk0
  have HV := Lib.hid hv
  obtain ⟨g, o, cap, rfl, hc1, hc2, hc⟩ := hv
  obtain ⟨n, hln⟩ : ∃ n, n = l.length := ⟨_, rfl⟩
  have HON : Hid (operN op = n) := by show _ = _; rw [hn, hln]
  simp only [← hln] at CO CK CS HV hk0 hc1 ⊢
  have HC := Lib.hid hc
  have HGN : Hid (g ≠ w.heap.size) := by
    have := (hc 0 _ (List.getElem?_eq_getElem (by omega))).lt
    show _ ≠ _; omega
  have HL := Lib.hid hln
  have HOP := Lib.hid hop
  have hz : ((n : Int) == 0) = false := by rw [beq_eq_false_iff_ne]; omega
  have hz2 : ((n : Int) != (n : Int)) = false := by simp
  have hz3 : n ≤ 9223372036854775807 := by omega
  obtain ⟨W, hW⟩ : ∃ W, W = w.alloc (.cells #[.int .i64 0, .int .i64 0, .int .i64 0, .string ⟨#[]⟩] 45) := ⟨_, rfl⟩
  have S0 : Hid (RSt w W g o n cap l) := by
    have hb : Below w.heap.size w W := by rw [hW]; exact below_alloc _ _
    exact ⟨hb, by rw [hW]; exact ResV.made w _, HV.out.later hb, fun i x hx => (HC.out i x hx).later' hb⟩
  obtain ⟨E, hE⟩ : ∃ E, E = doE op l := ⟨_, rfl⟩
  rw [← hE] at HE ⊢
  clear h hn hop hc hln hs HV hE
  go_enter Tryz.func37, Tryz.ntmps37
  go_wp2_with (go_at_call 99; refine (CO.out _).mono ?_; rintro e w' ⟨rfl, rfl⟩)
  rw [← hW]
  clear hW CO
  go_loopw [6] (fun iv wr => ∃ k : Nat, k ≤ n ∧ iv = .int .i64 (k : Nat) ∧ Hid ((l.take k).all rightV = true) ∧ Hid (RSt w wr g o n cap l)) (fun iv _ => n - (intOf iv).toNat)
  case atStart => exact ⟨0, Nat.zero_le _, rfl, rfl, S0.out⟩
  case round =>
    obtain ⟨k, hk, rfl, hall, HS⟩ := hrel
    by_cases hlt : k < n
    · obtain ⟨x, hx⟩ : ∃ x, l[k]? = some x := ⟨_, List.getElem?_eq_getElem (by rw [← HL.out]; exact hlt)⟩
      obtain ⟨x0, x1, x2, x3⟩ := HS.out.elem k x hx
      have HX := Lib.hid hx
      have CR := fun w9 => rcheck_any x w9 (HSL.out x (List.mem_of_getElem? hx))
      clear hx
      cases hok : rightV x with
      | true =>
        have hst : Hid ((l.take (k + 1)).all rightV = true) := all_take_succ hall.out HX.out hok
        simp only [chk_good hok] at CR
        have CR := Lib.hid CR
        rename_i CR'
        clear hok CR'
        go_wp2_with fail
        refine (CR.out _).mono ?_
        rintro e w2 ⟨rfl, hb2⟩
        have HS2 := Lib.hid (HS.out.later hb2)
        clear hb2 CR
        go_wp2
        exact ⟨⟨k + 1, by omega, rfl, hst, HS2⟩, by show n - (k + 1) < n - k; omega⟩
      | false =>
        have hbad : Hid (l.all rightV = false) := by
          show _ = _
          rw [List.all_eq_false]
          exact ⟨x, List.mem_of_getElem? HX.out, by simp [hok]⟩
        simp only [chk_bad hok] at CR
        have CR := Lib.hid CR
        rename_i CR'
        clear hok CR'
        go_wp2_with fail
        refine (CR.out _).mono ?_
        rintro e w2 ⟨rfl, hb2⟩
        have HS2 := Lib.hid (HS.out.later hb2)
        obtain ⟨⟨r0, r1, r2, r3⟩, f0, f1, f2, f3⟩ := HS2.out.res
        have HE2 := HE.out
        rw [if_pos hbad.out] at HE2
        have HE3 := Lib.hid HE2
        clear hb2 CR HE2
        go_wp2
        refine bodyPost_ret (by simp [results, Tryz.results37, go_sem, r0, r1, r2, r3]; try rfl) rfl ?_
        exact ⟨by rw [HE3.out]; rfl, below_set4 HS2.out.below⟩
    · obtain rfl : k = n := by omega
      have hall' : Hid (l.all rightV = true) := by
        show _ = _
        have := hall.out
        rwa [List.take_of_length_le (by rw [HL.out]; exact Nat.le_refl _)] at this
      have HE1 : Hid (E = if (opS op.toNat).kinds l = false then (zeroV, 12) else (resE (opS op.toNat) l, 0)) := by
        show _ = _
        rw [HE.out, if_neg (by rw [hall'.out]; simp)]
      have CK1 := CK.out _ HS.out.list
      clear hall HE
      cases hkb : (opS op.toNat).kinds l with
      | false =>
        have HE2 : Hid (E = (zeroV, 12)) := by show _ = _; rw [HE1.out, if_pos hkb]
        rw [hkb] at CK1
        have CK1 := Lib.hid CK1
        rename_i CK'
        clear CK' hkb HE1 CS CK
        go_wp2_with fail
        refine CK1.out.mono ?_
        rintro e w2 ⟨rfl, hb2⟩
        have HS2 := Lib.hid (HS.out.later hb2)
        obtain ⟨⟨r0, r1, r2, r3⟩, f0, f1, f2, f3⟩ := HS2.out.res
        clear hb2 CK1
        go_wp2
        refine bodyPost_ret (by simp [results, Tryz.results37, go_sem, r0, r1, r2, r3]; try rfl) rfl ?_
        exact ⟨by rw [HE2.out]; rfl, below_set4 HS2.out.below⟩
      | true =>
        have HE2 : Hid (E = (resE (opS op.toNat) l, 0)) := by show _ = _; rw [HE1.out, if_neg (by rw [hkb]; decide)]
        have HKB := Lib.hid hkb
        have CS2 := Lib.hid (fun w1 (h' : VaL w1 (.slice (some ⟨g, o, none⟩) k cap) l) => CS.out w1 h' hall'.out HKB.out)
        rw [hkb] at CK1
        have CK1 := Lib.hid CK1
        rename_i CK'
        clear CK' hkb HE1 CS CK
        go_wp2_with fail
        refine CK1.out.mono ?_
        rintro e w2 ⟨rfl, hb2⟩
        have HS2 := Lib.hid (HS.out.later hb2)
        have CS3 := CS2.out _ HS2.out.list
        clear hb2 CK1 HS CS2
        cases hsb : (spcE op l).2 with
        | true =>
          have HE3 : Hid (E = ((spcE op l).1, 0)) := by show _ = _; rw [HE2.out, res_special HOP.out hsb]
          rw [hsb] at CS3
          obtain ⟨⟨y0, y1, y2, y3⟩, hy⟩ : ∃ y, y = (spcE op l).1 := ⟨_, rfl⟩
          rw [← hy] at CS3 HE3
          have CS3 := Lib.hid CS3
          rename_i CS'
          clear CS' hsb hy HE2
          go_wp2_with fail
          refine CS3.out.mono ?_
          rintro e w3 ⟨rfl, hb3⟩
          have hS3 := HS2.out.later hb3
          have HS3 := Lib.hid hS3
          obtain ⟨⟨r0, r1, r2, r3⟩, f0, f1, f2, f3⟩ := hS3.res
          have hlt1 : w.heap.size < w3.heap.size := World.block_lt_of_cell? _ ⟨w.heap.size, 0, none⟩ hS3.res.box.kind
          have hlt2 : w.heap.size ≠ w3.heap.size := by omega
          clear hb3 CS3 hS3
          go_wp2
          refine bodyPost_ret (by simp [results, Tryz.results37, go_sem, r0, r1, r2, r3, hlt1]; try rfl) rfl ?_
          exact ⟨by rw [HE3.out]; rfl, (below_set4 HS3.out.below).alloc (by simp; omega) _⟩
        | false =>
          rw [hsb] at CS3
          have HSB := Lib.hid hsb
          obtain ⟨⟨y0, y1, y2, y3⟩, hy⟩ : ∃ y, y = (spcE op l).1 := ⟨_, rfl⟩
          rw [← hy] at CS3
          have CS3 := Lib.hid CS3
          rename_i CS'
          clear CS' hsb hy
          go_wp2_with fail
          refine CS3.out.mono ?_
          rintro e w3 ⟨rfl, hb3⟩
          obtain ⟨W4, hW4⟩ : ∃ W4, W4 = w3.alloc (.cells #[.int .i64 y0, .int .i64 y1, .int .i64 y2, .string ⟨y3.toArray⟩] 45) := ⟨_, rfl⟩
          have HS4 : Hid (RSt w W4 g o k cap l) := by rw [hW4]; exact (HS2.out.later hb3).later (below_alloc _ _)
          clear hb3 CS3 HS2
          go_wp2
          rw [← hW4]
          clear hW4
          go_loop [9] (fun jv => ∃ j : Nat, j ≤ k ∧ jv = .int .i64 (j : Nat) ∧ Hid ((l.take j).find? (fun v => decide (v.kind = 0)) = none)) (fun jv => k - (intOf jv).toNat)
          case atStart => exact ⟨0, Nat.zero_le _, rfl, rfl⟩
          case round =>
            obtain ⟨j, hj, rfl, hnone⟩ := hrel
            by_cases hlt : j < k
            · obtain ⟨x, hx⟩ : ∃ x, l[j]? = some x := ⟨_, List.getElem?_eq_getElem (by rw [← HL.out]; exact hlt)⟩
              obtain ⟨x0, x1, x2, x3⟩ := HS4.out.elem j x hx
              have HX := Lib.hid hx
              clear hx
              by_cases h0 : x.kind = 0
              · have e0 : (x.kind == (0 : Int)) = true := by rw [h0]; rfl
                have HE3 : Hid (E = (x, 0)) := by show _ = _; rw [HE2.out, res_missing HOP.out HSB.out (find_first hnone.out HX.out (by rw [decide_eq_true_eq]; exact h0))]
                obtain ⟨⟨r0, r1, r2, r3⟩, f0, f1, f2, f3⟩ := HS4.out.res
                clear h0
                go_wp2
                refine bodyPost_ret (by simp [results, Tryz.results37, go_sem, r0, r1, r2, r3]; try rfl) rfl ?_
                exact ⟨by rw [HE3.out]; rfl, below_set4 HS4.out.below⟩
              · have e0 : (x.kind == (0 : Int)) = false := by rw [beq_eq_false_iff_ne]; exact h0
                have HN : Hid ((l.take (j + 1)).find? (fun v => decide (v.kind = 0)) = none) := find_next hnone.out HX.out (by rw [decide_eq_false_iff_not]; exact h0)
                clear h0
                go_wp2
                exact ⟨⟨j + 1, by omega, rfl, HN⟩, by show k - (j + 1) < k - j; omega⟩
            · obtain rfl : j = k := by omega
              have HF : Hid (l.find? (fun v => decide (v.kind = 0)) = none) := by
                show _ = _
                have := hnone.out
                rwa [List.take_of_length_le (by rw [HL.out]; exact Nat.le_refl _)] at this
              have HE3 : Hid (E = (tailE op l, 0)) := by show _ = _; rw [HE2.out, res_tail HOP.out HSB.out HF.out]
              clear hnone HE2
              obtain ⟨a, ha⟩ : ∃ a, l[0]? = some a := ⟨_, List.getElem?_eq_getElem (by rw [← HL.out]; exact hk0)⟩
              have HA := Lib.hid ha
              have NA := Lib.hid (fun w1 => rnumber_any a (all_at hall'.out ha) w1)
              have ea := HS4.out.elem 0 a ha
              rw [Nat.zero_mul, Nat.add_zero] at ea
              obtain ⟨x0, x1, x2, x3⟩ := ea
              clear ha
              have hcls : op = 4 ∨ op = 5 ∨ op = 6 ∨ op = 19 ∨ op = 20 ∨ op = 13 ∨ op = 14 ∨ op = 15 ∨ op = 16 ∨ op = 17 ∨ op = 18 ∨ (9 ≤ op ∧ op ≤ 12) := op_left HOP.out HSB.out
              have ARI := Lib.hid (fun b w1 (hb : l[1]? = some b) (x y : Value) (hx : a.kind = 2 → Q9 w1 x (qOf a)) (hy : b.kind = 2 → Q9 w1 y (qOf b)) (h9 : 9 ≤ op ∧ op ≤ 12) => rarith_any op l a b w1 h9 HA.out hb hall'.out HKB.out HF.out x y hx hy)
              rcases hcls with hcl | hcl | hcl | hcl | hcl | hcl | hcl | hcl | hcl | hcl | hcl | hcl
              · skip
                have f4 : (op == (4 : Int)) = true := by rw [hcl]; rfl
                have f5 : (op == (5 : Int)) = false := by rw [beq_eq_false_iff_ne]; omega
                have f6 : (op == (6 : Int)) = false := by rw [beq_eq_false_iff_ne]; omega
                have f19 : (op == (19 : Int)) = false := by rw [beq_eq_false_iff_ne]; omega
                have f20 : (op == (20 : Int)) = false := by rw [beq_eq_false_iff_ne]; omega
                have f13 : (op == (13 : Int)) = false := by rw [beq_eq_false_iff_ne]; omega
                have f14 : (op == (14 : Int)) = false := by rw [beq_eq_false_iff_ne]; omega
                have f15 : (op == (15 : Int)) = false := by rw [beq_eq_false_iff_ne]; omega
                have f16 : (op == (16 : Int)) = false := by rw [beq_eq_false_iff_ne]; omega
                have f17 : (op == (17 : Int)) = false := by rw [beq_eq_false_iff_ne]; omega
                have f18 : (op == (18 : Int)) = false := by rw [beq_eq_false_iff_ne]; omega
                have HCL := Lib.hid hcl
                clear hcl
                go_wp2_with fail
                refine (NA.out _).mono ?_
                rintro e w5 ⟨b5, a1, n1, c1, a2, n2, c2, f5, rfl, hq5, hb5⟩
                obtain ⟨W6, hW6⟩ : ∃ W6, W6 = w5.alloc (.cells #[.bool b5, .slice a1 n1 c1, .slice a2 n2 c2] 28) := ⟨_, rfl⟩
                have HS6 : Hid (RSt w W6 g o j cap l) := by rw [hW6]; exact (HS4.out.later hb5).later (below_alloc _ _)
                have HQ6 : Hid (a.kind = 2 → Q9 W6 (.agg #[.bool b5, .slice a1 n1 c1, .slice a2 n2 c2]) (qOf a)) := fun h => by rw [hW6]; exact (hq5 h).later (below_alloc _ _)
                have K6 : Hid (W6.cell? ⟨w5.heap.size, 0, none⟩ = some (.bool b5) ∧ W6.cell? ⟨w5.heap.size, 1, none⟩ = some (.slice a1 n1 c1) ∧ W6.cell? ⟨w5.heap.size, 2, none⟩ = some (.slice a2 n2 c2) ∧ w5.heap.size < W6.heap.size) := by
                  rw [hW6]
                  refine ⟨?_, ?_, ?_, by simp⟩ <;> (rw [World.cell?_alloc_at _ _ _ _ rfl]; rfl)
                clear hb5 hq5 NA x0 x1 x2 x3
                have hka : isK a 1 = true := all_at (f := (isK · 1)) (show allK 1 l = true by have := HKB.out; rw [HCL.out] at this; exact this) HA.out
                obtain ⟨d, hd⟩ := truthOf (all_at hall'.out HA.out) hka (find_kind HF.out HA.out)
                have HE4 : Hid (E = (truthV (!d), 0)) := by
                  show _ = _
                  rw [HE3.out, HCL.out]
                  show (notR l, (0 : Int)) = _
                  unfold notR
                  rw [vat_at HA.out, hd]
                  cases d <;> rfl
                have HAT := HS6.out.elem 0 a HA.out
                rw [Nat.zero_mul, Nat.add_zero, hd] at HAT
                have HAT := Lib.hid HAT
                rename_i HAT'
                have CF := Lib.hid (fun w1 => truth9_any false w1)
                have CN := Lib.hid (fun w1 => truth9_any (!d) w1)
                have HRD : Hid (ResV W6.drew w.heap.size) := ⟨⟨HS6.out.res.box.kind, HS6.out.res.box.num, HS6.out.res.box.den, HS6.out.res.box.str⟩, HS6.out.res.f0, HS6.out.res.f1, HS6.out.res.f2, HS6.out.res.f3⟩
                have h0j : (0 : Int) < (j : Int) := by omega
                clear hka hd HE3 HQ6 HAT' K6 ARI
                cases d
                · have HG9 : Hid (g ≠ w.heap.size) := HGN.out
                  go_wp2_with fail
                  rw [← hW6]
                  clear hW6
                  go_wp2_with fail
                  refine wp_region_list [.val (.slice (some ⟨g, o, none⟩) j cap), .val (.pointer (some ⟨g, o, none⟩)), .val (.agg #[.int .i64 1, .int .i64 0, .int .i64 0, .string ⟨#[]⟩]), .val (.agg #[.int .i64 1, .int .i64 0, .int .i64 0, .string ⟨#[]⟩]), .val (.bool true), .val (.agg #[.int .i64 1, .int .i64 1, .int .i64 0, .string ⟨#[]⟩]), .holds (fun _ w' => CelV w' w.heap.size (.int .i64 1) (.int .i64 1) (.int .i64 0) (.string ⟨#[]⟩)), .val (.int .i64 0)]
                    [some 77, some 78, some 79, some 80, some 81, some 82, none, some 5]
                    (fun w' => Below w.heap.size w w' ∧ RvAt w' w.heap.size ∧ VaAt w' g o (truthV false)) (fun w1 w2 => CelV w1 w.heap.size (.int .i64 1) (.int .i64 1) (.int .i64 0) (.string ⟨#[]⟩) → CelV w2 w.heap.size (.int .i64 1) (.int .i64 1) (.int .i64 0) (.string ⟨#[]⟩)) rfl (by kernel_rfl) (by kernel_rfl) (by kernel_rfl) (by kernel_rfl) ?_ ?_ ?_ ?_
                  · (intro y hy v w1 w2 hs hv; simp only [List.mem_cons, List.not_mem_nil, or_false] at hy; rcases hy with rfl | rfl | rfl | rfl | rfl | rfl | rfl | rfl; all_goals first | exact hv | exact hs hv)
                  · exact ⟨HS6.out.below.drew, RvAt.of HRD.out, ⟨HAT.out.kind, HAT.out.num, HAT.out.den, HAT.out.str⟩⟩
                  · intro i9 op9 ho
                    have hi : i9 < 8 := (Array.getElem?_eq_some_iff.1 ho).1
                    match i9, hi with
                    | 0, _ =>
                      obtain rfl := Option.some.inj ho
                      intro a9 wx hBx hev haf
                      rw [if_pos (wanted_none rfl)]
                      have f1 : (a9.tmps[1]?).getD undef = (.slice (some ⟨g, o, none⟩) j cap) := hev 1 (by kernel_rfl)
                      clear haf hev
                      go_simp
                      exact ⟨rfl, fun h => h, hBx⟩
                    | 1, _ =>
                      obtain rfl := Option.some.inj ho
                      intro a9 wx hBx hev haf
                      rw [if_pos (wanted_none rfl)]
                      have f77 : (a9.tmps[77]?).getD undef = (.slice (some ⟨g, o, none⟩) j cap) := haf 0 _ rfl rfl 77 rfl
                      clear haf hev
                      go_simp
                      exact ⟨rfl, fun h => h, hBx⟩
                    | 2, _ =>
                      obtain rfl := Option.some.inj ho
                      intro a9 wx hBx hev haf
                      rw [if_pos (wanted_none rfl)]
                      have f78 : (a9.tmps[78]?).getD undef = (.pointer (some ⟨g, o, none⟩)) := haf 0 _ rfl rfl 78 rfl
                      clear haf hev
                      obtain ⟨k0, k1, k2, k3⟩ := hBx.2.2
                      go_simp
                      exact ⟨rfl, fun h => h, hBx⟩
                    | 3, _ =>
                      obtain rfl := Option.some.inj ho
                      intro a9 wx hBx hev haf
                      rw [if_pos (wanted_none rfl)]
                      clear haf hev
                      go_simp
                      exact (CF.out _).mono fun e w' ⟨he, hb⟩ => ⟨_, he, rfl, fun h => h.later hb, below_keep hBx.1 hb, hBx.2.1.later hb, hBx.2.2.later' hb⟩
                    | 4, _ =>
                      obtain rfl := Option.some.inj ho
                      intro a9 wx hBx hev haf
                      rw [if_pos (wanted_none rfl)]
                      have f79 : (a9.tmps[79]?).getD undef = (.agg #[.int .i64 1, .int .i64 0, .int .i64 0, .string ⟨#[]⟩]) := haf 0 _ rfl rfl 79 rfl
                      have f80 : (a9.tmps[80]?).getD undef = (.agg #[.int .i64 1, .int .i64 0, .int .i64 0, .string ⟨#[]⟩]) := haf 1 _ rfl rfl 80 rfl
                      clear haf hev
                      go_simp
                      exact ⟨rfl, fun h => h, hBx⟩
                    | 5, _ =>
                      obtain rfl := Option.some.inj ho
                      intro a9 wx hBx hev haf
                      rw [if_pos (wanted_none rfl)]
                      have f81 : (a9.tmps[81]?).getD undef = (.bool true) := haf 0 _ rfl rfl 81 rfl
                      clear haf hev
                      go_simp
                      exact (CN.out _).mono fun e w' ⟨he, hb⟩ => ⟨_, he, rfl, fun h => h.later hb, below_keep hBx.1 hb, hBx.2.1.later hb, hBx.2.2.later' hb⟩
                    | 6, _ =>
                      obtain rfl := Option.some.inj ho
                      intro a9 wx hBx hev haf
                      rw [if_pos (wanted_none rfl)]
                      have f4 : (a9.tmps[4]?).getD undef = (.pointer (some ⟨w.heap.size, 0, none⟩)) := hev 4 (by kernel_rfl)
                      have f82 : (a9.tmps[82]?).getD undef = (.agg #[.int .i64 1, .int .i64 1, .int .i64 0, .string ⟨#[]⟩]) := haf 0 _ rfl rfl 82 rfl
                      clear haf hev
                      obtain ⟨⟨v0, k0⟩, ⟨v1, k1⟩, ⟨v2, k2⟩, ⟨v3, k3⟩, q0, q1, q2, q3⟩ := hBx.2.1
                      go_simp
                      exact ⟨(hBx.2.1.cells _ _ _ _).1, fun _ => (hBx.2.1.cells _ _ _ _).1, below_set4' hBx.1 (Nat.le_refl _), (hBx.2.1.cells _ _ _ _).2, hBx.2.2.setFar HG9.out _ _ _ _⟩
                    | 7, _ =>
                      obtain rfl := Option.some.inj ho
                      intro a9 wx hBx hev haf
                      rw [if_pos (wanted_none rfl)]
                      clear haf hev
                      go_simp
                      exact ⟨rfl, fun h => h, hBx⟩
                  · intro vals wx hBx hG
                    have g0 : vals 0 = (.slice (some ⟨g, o, none⟩) j cap) := hG 0 (by decide)
                    have g1 : vals 1 = (.pointer (some ⟨g, o, none⟩)) := hG 1 (by decide)
                    have g2 : vals 2 = (.agg #[.int .i64 1, .int .i64 0, .int .i64 0, .string ⟨#[]⟩]) := hG 2 (by decide)
                    have g3 : vals 3 = (.agg #[.int .i64 1, .int .i64 0, .int .i64 0, .string ⟨#[]⟩]) := hG 3 (by decide)
                    have g4 : vals 4 = (.bool true) := hG 4 (by decide)
                    have g5 : vals 5 = (.agg #[.int .i64 1, .int .i64 1, .int .i64 0, .string ⟨#[]⟩]) := hG 5 (by decide)
                    have g6 := hG 6 (by decide)
                    have g7 : vals 7 = (.int .i64 0) := hG 7 (by decide)
                    clear hG
                    simp only [putDs, Act.put, Nat.zero_add, Nat.reduceAdd, List.setIfInBounds_toArray, List.set_cons_succ, List.set_cons_zero, g0, g1, g2, g3, g4, g5, g7]
                    clear g0 g1 g2 g3 g4 g5 g7
                    obtain ⟨r0, r1, r2, r3⟩ := g6
                    go_wp2
                    refine bodyPost_ret (by simp [results, Tryz.results37, go_sem, r0, r1, r2, r3]; try rfl) rfl ?_
                    exact ⟨by rw [HE4.out]; rfl, hBx.1⟩
                · have HG9 : Hid (g ≠ w.heap.size) := HGN.out
                  go_wp2_with fail
                  rw [← hW6]
                  clear hW6
                  go_wp2_with fail
                  refine wp_region_list [.val (.slice (some ⟨g, o, none⟩) j cap), .val (.pointer (some ⟨g, o, none⟩)), .val (.agg #[.int .i64 1, .int .i64 1, .int .i64 0, .string ⟨#[]⟩]), .val (.agg #[.int .i64 1, .int .i64 0, .int .i64 0, .string ⟨#[]⟩]), .val (.bool false), .val (.agg #[.int .i64 1, .int .i64 0, .int .i64 0, .string ⟨#[]⟩]), .holds (fun _ w' => CelV w' w.heap.size (.int .i64 1) (.int .i64 0) (.int .i64 0) (.string ⟨#[]⟩)), .val (.int .i64 0)]
                    [some 77, some 78, some 79, some 80, some 81, some 82, none, some 5]
                    (fun w' => Below w.heap.size w w' ∧ RvAt w' w.heap.size ∧ VaAt w' g o (truthV true)) (fun w1 w2 => CelV w1 w.heap.size (.int .i64 1) (.int .i64 0) (.int .i64 0) (.string ⟨#[]⟩) → CelV w2 w.heap.size (.int .i64 1) (.int .i64 0) (.int .i64 0) (.string ⟨#[]⟩)) rfl (by kernel_rfl) (by kernel_rfl) (by kernel_rfl) (by kernel_rfl) ?_ ?_ ?_ ?_
                  · (intro y hy v w1 w2 hs hv; simp only [List.mem_cons, List.not_mem_nil, or_false] at hy; rcases hy with rfl | rfl | rfl | rfl | rfl | rfl | rfl | rfl; all_goals first | exact hv | exact hs hv)
                  · exact ⟨HS6.out.below.drew, RvAt.of HRD.out, ⟨HAT.out.kind, HAT.out.num, HAT.out.den, HAT.out.str⟩⟩
                  · intro i9 op9 ho
                    have hi : i9 < 8 := (Array.getElem?_eq_some_iff.1 ho).1
                    match i9, hi with
                    | 0, _ =>
                      obtain rfl := Option.some.inj ho
                      intro a9 wx hBx hev haf
                      rw [if_pos (wanted_none rfl)]
                      have f1 : (a9.tmps[1]?).getD undef = (.slice (some ⟨g, o, none⟩) j cap) := hev 1 (by kernel_rfl)
                      clear haf hev
                      go_simp
                      exact ⟨rfl, fun h => h, hBx⟩
                    | 1, _ =>
                      obtain rfl := Option.some.inj ho
                      intro a9 wx hBx hev haf
                      rw [if_pos (wanted_none rfl)]
                      have f77 : (a9.tmps[77]?).getD undef = (.slice (some ⟨g, o, none⟩) j cap) := haf 0 _ rfl rfl 77 rfl
                      clear haf hev
                      go_simp
                      exact ⟨rfl, fun h => h, hBx⟩
                    | 2, _ =>
                      obtain rfl := Option.some.inj ho
                      intro a9 wx hBx hev haf
                      rw [if_pos (wanted_none rfl)]
                      have f78 : (a9.tmps[78]?).getD undef = (.pointer (some ⟨g, o, none⟩)) := haf 0 _ rfl rfl 78 rfl
                      clear haf hev
                      obtain ⟨k0, k1, k2, k3⟩ := hBx.2.2
                      go_simp
                      exact ⟨rfl, fun h => h, hBx⟩
                    | 3, _ =>
                      obtain rfl := Option.some.inj ho
                      intro a9 wx hBx hev haf
                      rw [if_pos (wanted_none rfl)]
                      clear haf hev
                      go_simp
                      exact (CF.out _).mono fun e w' ⟨he, hb⟩ => ⟨_, he, rfl, fun h => h.later hb, below_keep hBx.1 hb, hBx.2.1.later hb, hBx.2.2.later' hb⟩
                    | 4, _ =>
                      obtain rfl := Option.some.inj ho
                      intro a9 wx hBx hev haf
                      rw [if_pos (wanted_none rfl)]
                      have f79 : (a9.tmps[79]?).getD undef = (.agg #[.int .i64 1, .int .i64 1, .int .i64 0, .string ⟨#[]⟩]) := haf 0 _ rfl rfl 79 rfl
                      have f80 : (a9.tmps[80]?).getD undef = (.agg #[.int .i64 1, .int .i64 0, .int .i64 0, .string ⟨#[]⟩]) := haf 1 _ rfl rfl 80 rfl
                      clear haf hev
                      go_simp
                      exact ⟨rfl, fun h => h, hBx⟩
                    | 5, _ =>
                      obtain rfl := Option.some.inj ho
                      intro a9 wx hBx hev haf
                      rw [if_pos (wanted_none rfl)]
                      have f81 : (a9.tmps[81]?).getD undef = (.bool false) := haf 0 _ rfl rfl 81 rfl
                      clear haf hev
                      go_simp
                      exact (CN.out _).mono fun e w' ⟨he, hb⟩ => ⟨_, he, rfl, fun h => h.later hb, below_keep hBx.1 hb, hBx.2.1.later hb, hBx.2.2.later' hb⟩
                    | 6, _ =>
                      obtain rfl := Option.some.inj ho
                      intro a9 wx hBx hev haf
                      rw [if_pos (wanted_none rfl)]
                      have f4 : (a9.tmps[4]?).getD undef = (.pointer (some ⟨w.heap.size, 0, none⟩)) := hev 4 (by kernel_rfl)
                      have f82 : (a9.tmps[82]?).getD undef = (.agg #[.int .i64 1, .int .i64 0, .int .i64 0, .string ⟨#[]⟩]) := haf 0 _ rfl rfl 82 rfl
                      clear haf hev
                      obtain ⟨⟨v0, k0⟩, ⟨v1, k1⟩, ⟨v2, k2⟩, ⟨v3, k3⟩, q0, q1, q2, q3⟩ := hBx.2.1
                      go_simp
                      exact ⟨(hBx.2.1.cells _ _ _ _).1, fun _ => (hBx.2.1.cells _ _ _ _).1, below_set4' hBx.1 (Nat.le_refl _), (hBx.2.1.cells _ _ _ _).2, hBx.2.2.setFar HG9.out _ _ _ _⟩
                    | 7, _ =>
                      obtain rfl := Option.some.inj ho
                      intro a9 wx hBx hev haf
                      rw [if_pos (wanted_none rfl)]
                      clear haf hev
                      go_simp
                      exact ⟨rfl, fun h => h, hBx⟩
                  · intro vals wx hBx hG
                    have g0 : vals 0 = (.slice (some ⟨g, o, none⟩) j cap) := hG 0 (by decide)
                    have g1 : vals 1 = (.pointer (some ⟨g, o, none⟩)) := hG 1 (by decide)
                    have g2 : vals 2 = (.agg #[.int .i64 1, .int .i64 1, .int .i64 0, .string ⟨#[]⟩]) := hG 2 (by decide)
                    have g3 : vals 3 = (.agg #[.int .i64 1, .int .i64 0, .int .i64 0, .string ⟨#[]⟩]) := hG 3 (by decide)
                    have g4 : vals 4 = (.bool false) := hG 4 (by decide)
                    have g5 : vals 5 = (.agg #[.int .i64 1, .int .i64 0, .int .i64 0, .string ⟨#[]⟩]) := hG 5 (by decide)
                    have g6 := hG 6 (by decide)
                    have g7 : vals 7 = (.int .i64 0) := hG 7 (by decide)
                    clear hG
                    simp only [putDs, Act.put, Nat.zero_add, Nat.reduceAdd, List.setIfInBounds_toArray, List.set_cons_succ, List.set_cons_zero, g0, g1, g2, g3, g4, g5, g7]
                    clear g0 g1 g2 g3 g4 g5 g7
                    obtain ⟨r0, r1, r2, r3⟩ := g6
                    go_wp2
                    refine bodyPost_ret (by simp [results, Tryz.results37, go_sem, r0, r1, r2, r3]; try rfl) rfl ?_
                    exact ⟨by rw [HE4.out]; rfl, hBx.1⟩
              · skip
                have f4 : (op == (4 : Int)) = false := by rw [beq_eq_false_iff_ne]; omega
                have f5 : (op == (5 : Int)) = true := by rw [hcl]; rfl
                have f6 : (op == (6 : Int)) = false := by rw [beq_eq_false_iff_ne]; omega
                have f19 : (op == (19 : Int)) = false := by rw [beq_eq_false_iff_ne]; omega
                have f20 : (op == (20 : Int)) = false := by rw [beq_eq_false_iff_ne]; omega
                have f13 : (op == (13 : Int)) = false := by rw [beq_eq_false_iff_ne]; omega
                have f14 : (op == (14 : Int)) = false := by rw [beq_eq_false_iff_ne]; omega
                have f15 : (op == (15 : Int)) = false := by rw [beq_eq_false_iff_ne]; omega
                have f16 : (op == (16 : Int)) = false := by rw [beq_eq_false_iff_ne]; omega
                have f17 : (op == (17 : Int)) = false := by rw [beq_eq_false_iff_ne]; omega
                have f18 : (op == (18 : Int)) = false := by rw [beq_eq_false_iff_ne]; omega
                have HCL := Lib.hid hcl
                clear hcl
                go_wp2_with fail
                refine (NA.out _).mono ?_
                rintro e w5 ⟨b5, a1, n1, c1, a2, n2, c2, f5, rfl, hq5, hb5⟩
                obtain ⟨W6, hW6⟩ : ∃ W6, W6 = w5.alloc (.cells #[.bool b5, .slice a1 n1 c1, .slice a2 n2 c2] 28) := ⟨_, rfl⟩
                have HS6 : Hid (RSt w W6 g o j cap l) := by rw [hW6]; exact (HS4.out.later hb5).later (below_alloc _ _)
                have HQ6 : Hid (a.kind = 2 → Q9 W6 (.agg #[.bool b5, .slice a1 n1 c1, .slice a2 n2 c2]) (qOf a)) := fun h => by rw [hW6]; exact (hq5 h).later (below_alloc _ _)
                have K6 : Hid (W6.cell? ⟨w5.heap.size, 0, none⟩ = some (.bool b5) ∧ W6.cell? ⟨w5.heap.size, 1, none⟩ = some (.slice a1 n1 c1) ∧ W6.cell? ⟨w5.heap.size, 2, none⟩ = some (.slice a2 n2 c2) ∧ w5.heap.size < W6.heap.size) := by
                  rw [hW6]
                  refine ⟨?_, ?_, ?_, by simp⟩ <;> (rw [World.cell?_alloc_at _ _ _ _ rfl]; rfl)
                clear hb5 hq5 NA x0 x1 x2 x3
                obtain ⟨k0, k1, k2, -⟩ := K6.out
                have hka : isK a 2 = true := all_at (f := (isK · 2)) (show allK 2 l = true by have := HKB.out; rw [HCL.out] at this; exact this) HA.out
                obtain ⟨q, hq, haq⟩ := ratOf (all_at hall'.out HA.out) hka (find_kind HF.out HA.out)
                have HE4 : Hid (E = (valQ (-q), 0)) := by
                  show _ = _
                  rw [HE3.out, HCL.out]
                  show (negR l, (0 : Int)) = _
                  unfold negR
                  rw [vat_at HA.out, haq]
                  exact congrArg (fun x : Va => (x, (0 : Int))) (neg_valQ hq)
                have HQ7 : Hid (Q9 W6 (.agg #[.bool b5, .slice a1 n1 c1, .slice a2 n2 c2]) q) := by
                  have := HQ6.out (by rw [haq])
                  rwa [haq, qOf_ratV] at this
                have C1 := Lib.hid (neg9_any HQ7.out)
                have C2 := Lib.hid (fun w1 v (hv : Q9 w1 v (-q)) => value9_any hv)
                obtain ⟨⟨z0, z1, z2, z3⟩, hz9⟩ : ∃ z, z = valQ (-q) := ⟨_, rfl⟩
                rw [← hz9] at HE4 C2
                clear hka haq hq hz9 HE3 HQ6 HQ7
                go_wp2_with fail
                rw [← hW6]
                clear hW6
                refine C1.out.mono ?_
                rintro e w7 ⟨v7, rfl, hv7, hb7⟩
                have HS7 := Lib.hid (HS6.out.later hb7)
                have C3 := Lib.hid (C2.out _ _ hv7)
                obtain ⟨vn7, vd7, rfl, -⟩ := hv7
                clear hb7 C1 C2 k0 k1 k2
                go_wp2_with fail
                refine C3.out.mono ?_
                rintro e w8 ⟨rfl, hb8⟩
                have HS8 := Lib.hid (HS7.out.later hb8)
                clear hb8 C3
                obtain ⟨⟨r0, r1, r2, r3⟩, f0, f1, f2, f3⟩ := HS8.out.res
                go_wp2
                refine bodyPost_ret (by simp [results, Tryz.results37, go_sem, r0, r1, r2, r3]; try rfl) rfl ?_
                exact ⟨by rw [HE4.out]; rfl, below_set4 HS8.out.below⟩
              · skip
                have f4 : (op == (4 : Int)) = false := by rw [beq_eq_false_iff_ne]; omega
                have f5 : (op == (5 : Int)) = false := by rw [beq_eq_false_iff_ne]; omega
                have f6 : (op == (6 : Int)) = true := by rw [hcl]; rfl
                have f19 : (op == (19 : Int)) = false := by rw [beq_eq_false_iff_ne]; omega
                have f20 : (op == (20 : Int)) = false := by rw [beq_eq_false_iff_ne]; omega
                have f13 : (op == (13 : Int)) = false := by rw [beq_eq_false_iff_ne]; omega
                have f14 : (op == (14 : Int)) = false := by rw [beq_eq_false_iff_ne]; omega
                have f15 : (op == (15 : Int)) = false := by rw [beq_eq_false_iff_ne]; omega
                have f16 : (op == (16 : Int)) = false := by rw [beq_eq_false_iff_ne]; omega
                have f17 : (op == (17 : Int)) = false := by rw [beq_eq_false_iff_ne]; omega
                have f18 : (op == (18 : Int)) = false := by rw [beq_eq_false_iff_ne]; omega
                have HCL := Lib.hid hcl
                clear hcl
                go_wp2_with fail
                refine (NA.out _).mono ?_
                rintro e w5 ⟨b5, a1, n1, c1, a2, n2, c2, f5, rfl, hq5, hb5⟩
                obtain ⟨W6, hW6⟩ : ∃ W6, W6 = w5.alloc (.cells #[.bool b5, .slice a1 n1 c1, .slice a2 n2 c2] 28) := ⟨_, rfl⟩
                have HS6 : Hid (RSt w W6 g o j cap l) := by rw [hW6]; exact (HS4.out.later hb5).later (below_alloc _ _)
                have HQ6 : Hid (a.kind = 2 → Q9 W6 (.agg #[.bool b5, .slice a1 n1 c1, .slice a2 n2 c2]) (qOf a)) := fun h => by rw [hW6]; exact (hq5 h).later (below_alloc _ _)
                have K6 : Hid (W6.cell? ⟨w5.heap.size, 0, none⟩ = some (.bool b5) ∧ W6.cell? ⟨w5.heap.size, 1, none⟩ = some (.slice a1 n1 c1) ∧ W6.cell? ⟨w5.heap.size, 2, none⟩ = some (.slice a2 n2 c2) ∧ w5.heap.size < W6.heap.size) := by
                  rw [hW6]
                  refine ⟨?_, ?_, ?_, by simp⟩ <;> (rw [World.cell?_alloc_at _ _ _ _ rfl]; rfl)
                clear hb5 hq5 NA x0 x1 x2 x3
                obtain ⟨k0, k1, k2, -⟩ := K6.out
                have hka : isK a 2 = true := all_at (f := (isK · 2)) (show allK 2 l = true by have := HKB.out; rw [HCL.out] at this; exact this) HA.out
                obtain ⟨q, hq, haq⟩ := ratOf (all_at hall'.out HA.out) hka (find_kind HF.out HA.out)
                have HE4 : Hid (E = (valQ (flQ q), 0)) := by
                  show _ = _
                  rw [HE3.out, HCL.out]
                  show (floorR l, (0 : Int)) = _
                  unfold floorR
                  rw [vat_at HA.out, haq, qOf_ratV]
                  skip
                have HQ7 : Hid (Q9 W6 (.agg #[.bool b5, .slice a1 n1 c1, .slice a2 n2 c2]) q) := by
                  have := HQ6.out (by rw [haq])
                  rwa [haq, qOf_ratV] at this
                have C1 := Lib.hid (floor9_any HQ7.out hq.bd (by omega))
                have C2 := Lib.hid (fun w1 v (hv : Q9 w1 v (flQ q)) => value9_any hv)
                obtain ⟨⟨z0, z1, z2, z3⟩, hz9⟩ : ∃ z, z = valQ (flQ q) := ⟨_, rfl⟩
                rw [← hz9] at HE4 C2
                clear hka haq hq hz9 HE3 HQ6 HQ7
                go_wp2_with fail
                rw [← hW6]
                clear hW6
                refine C1.out.mono ?_
                rintro e w7 ⟨v7, rfl, hv7, hb7⟩
                have HS7 := Lib.hid (HS6.out.later hb7)
                have C3 := Lib.hid (C2.out _ _ hv7)
                obtain ⟨vn7, vd7, rfl, -⟩ := hv7
                clear hb7 C1 C2 k0 k1 k2
                go_wp2_with fail
                refine C3.out.mono ?_
                rintro e w8 ⟨rfl, hb8⟩
                have HS8 := Lib.hid (HS7.out.later hb8)
                clear hb8 C3
                obtain ⟨⟨r0, r1, r2, r3⟩, f0, f1, f2, f3⟩ := HS8.out.res
                go_wp2
                refine bodyPost_ret (by simp [results, Tryz.results37, go_sem, r0, r1, r2, r3]; try rfl) rfl ?_
                exact ⟨by rw [HE4.out]; rfl, below_set4 HS8.out.below⟩
              · skip
                have f4 : (op == (4 : Int)) = false := by rw [beq_eq_false_iff_ne]; omega
                have f5 : (op == (5 : Int)) = false := by rw [beq_eq_false_iff_ne]; omega
                have f6 : (op == (6 : Int)) = false := by rw [beq_eq_false_iff_ne]; omega
                have f19 : (op == (19 : Int)) = true := by rw [hcl]; rfl
                have f20 : (op == (20 : Int)) = false := by rw [beq_eq_false_iff_ne]; omega
                have f13 : (op == (13 : Int)) = false := by rw [beq_eq_false_iff_ne]; omega
                have f14 : (op == (14 : Int)) = false := by rw [beq_eq_false_iff_ne]; omega
                have f15 : (op == (15 : Int)) = false := by rw [beq_eq_false_iff_ne]; omega
                have f16 : (op == (16 : Int)) = false := by rw [beq_eq_false_iff_ne]; omega
                have f17 : (op == (17 : Int)) = false := by rw [beq_eq_false_iff_ne]; omega
                have f18 : (op == (18 : Int)) = false := by rw [beq_eq_false_iff_ne]; omega
                have HCL := Lib.hid hcl
                clear hcl
                go_wp2_with fail
                refine (NA.out _).mono ?_
                rintro e w5 ⟨b5, a1, n1, c1, a2, n2, c2, f5, rfl, hq5, hb5⟩
                obtain ⟨W6, hW6⟩ : ∃ W6, W6 = w5.alloc (.cells #[.bool b5, .slice a1 n1 c1, .slice a2 n2 c2] 28) := ⟨_, rfl⟩
                have HS6 : Hid (RSt w W6 g o j cap l) := by rw [hW6]; exact (HS4.out.later hb5).later (below_alloc _ _)
                have HQ6 : Hid (a.kind = 2 → Q9 W6 (.agg #[.bool b5, .slice a1 n1 c1, .slice a2 n2 c2]) (qOf a)) := fun h => by rw [hW6]; exact (hq5 h).later (below_alloc _ _)
                have K6 : Hid (W6.cell? ⟨w5.heap.size, 0, none⟩ = some (.bool b5) ∧ W6.cell? ⟨w5.heap.size, 1, none⟩ = some (.slice a1 n1 c1) ∧ W6.cell? ⟨w5.heap.size, 2, none⟩ = some (.slice a2 n2 c2) ∧ w5.heap.size < W6.heap.size) := by
                  rw [hW6]
                  refine ⟨?_, ?_, ?_, by simp⟩ <;> (rw [World.cell?_alloc_at _ _ _ _ rfl]; rfl)
                clear hb5 hq5 NA x0 x1 x2 x3
                obtain ⟨k0, k1, k2, -⟩ := K6.out
                have HE4 : Hid (E = (truthV true, 0)) := by show _ = _; rw [HE3.out, HCL.out]; rfl
                have CT := Lib.hid (fun w1 => truth9_any true w1)
                clear HE3
                go_wp2_with fail
                rw [← hW6]
                clear hW6
                refine (CT.out _).mono ?_
                rintro e w7 ⟨rfl, hb7⟩
                have HS7 := Lib.hid (HS6.out.later hb7)
                clear hb7 CT k0 k1 k2
                obtain ⟨⟨r0, r1, r2, r3⟩, f0, f1, f2, f3⟩ := HS7.out.res
                go_wp2
                refine bodyPost_ret (by simp [results, Tryz.results37, go_sem, r0, r1, r2, r3]; try rfl) rfl ?_
                exact ⟨by rw [HE4.out]; rfl, below_set4 HS7.out.below⟩
              · skip
                have f4 : (op == (4 : Int)) = false := by rw [beq_eq_false_iff_ne]; omega
                have f5 : (op == (5 : Int)) = false := by rw [beq_eq_false_iff_ne]; omega
                have f6 : (op == (6 : Int)) = false := by rw [beq_eq_false_iff_ne]; omega
                have f19 : (op == (19 : Int)) = false := by rw [beq_eq_false_iff_ne]; omega
                have f20 : (op == (20 : Int)) = true := by rw [hcl]; rfl
                have f13 : (op == (13 : Int)) = false := by rw [beq_eq_false_iff_ne]; omega
                have f14 : (op == (14 : Int)) = false := by rw [beq_eq_false_iff_ne]; omega
                have f15 : (op == (15 : Int)) = false := by rw [beq_eq_false_iff_ne]; omega
                have f16 : (op == (16 : Int)) = false := by rw [beq_eq_false_iff_ne]; omega
                have f17 : (op == (17 : Int)) = false := by rw [beq_eq_false_iff_ne]; omega
                have f18 : (op == (18 : Int)) = false := by rw [beq_eq_false_iff_ne]; omega
                have HCL := Lib.hid hcl
                clear hcl
                go_wp2_with fail
                refine (NA.out _).mono ?_
                rintro e w5 ⟨b5, a1, n1, c1, a2, n2, c2, f5, rfl, hq5, hb5⟩
                obtain ⟨W6, hW6⟩ : ∃ W6, W6 = w5.alloc (.cells #[.bool b5, .slice a1 n1 c1, .slice a2 n2 c2] 28) := ⟨_, rfl⟩
                have HS6 : Hid (RSt w W6 g o j cap l) := by rw [hW6]; exact (HS4.out.later hb5).later (below_alloc _ _)
                have HQ6 : Hid (a.kind = 2 → Q9 W6 (.agg #[.bool b5, .slice a1 n1 c1, .slice a2 n2 c2]) (qOf a)) := fun h => by rw [hW6]; exact (hq5 h).later (below_alloc _ _)
                have K6 : Hid (W6.cell? ⟨w5.heap.size, 0, none⟩ = some (.bool b5) ∧ W6.cell? ⟨w5.heap.size, 1, none⟩ = some (.slice a1 n1 c1) ∧ W6.cell? ⟨w5.heap.size, 2, none⟩ = some (.slice a2 n2 c2) ∧ w5.heap.size < W6.heap.size) := by
                  rw [hW6]
                  refine ⟨?_, ?_, ?_, by simp⟩ <;> (rw [World.cell?_alloc_at _ _ _ _ rfl]; rfl)
                clear hb5 hq5 NA x0 x1 x2 x3
                obtain ⟨k0, k1, k2, -⟩ := K6.out
                have HE4 : Hid (E = (truthV false, 0)) := by show _ = _; rw [HE3.out, HCL.out]; rfl
                have CT := Lib.hid (fun w1 => truth9_any false w1)
                clear HE3
                go_wp2_with fail
                rw [← hW6]
                clear hW6
                refine (CT.out _).mono ?_
                rintro e w7 ⟨rfl, hb7⟩
                have HS7 := Lib.hid (HS6.out.later hb7)
                clear hb7 CT k0 k1 k2
                obtain ⟨⟨r0, r1, r2, r3⟩, f0, f1, f2, f3⟩ := HS7.out.res
                go_wp2
                refine bodyPost_ret (by simp [results, Tryz.results37, go_sem, r0, r1, r2, r3]; try rfl) rfl ?_
                exact ⟨by rw [HE4.out]; rfl, below_set4 HS7.out.below⟩
              · skip
                have f4 : (op == (4 : Int)) = false := by rw [beq_eq_false_iff_ne]; omega
                have f5 : (op == (5 : Int)) = false := by rw [beq_eq_false_iff_ne]; omega
                have f6 : (op == (6 : Int)) = false := by rw [beq_eq_false_iff_ne]; omega
                have f19 : (op == (19 : Int)) = false := by rw [beq_eq_false_iff_ne]; omega
                have f20 : (op == (20 : Int)) = false := by rw [beq_eq_false_iff_ne]; omega
                have f13 : (op == (13 : Int)) = true := by rw [hcl]; rfl
                have f14 : (op == (14 : Int)) = false := by rw [beq_eq_false_iff_ne]; omega
                have f15 : (op == (15 : Int)) = false := by rw [beq_eq_false_iff_ne]; omega
                have f16 : (op == (16 : Int)) = false := by rw [beq_eq_false_iff_ne]; omega
                have f17 : (op == (17 : Int)) = false := by rw [beq_eq_false_iff_ne]; omega
                have f18 : (op == (18 : Int)) = false := by rw [beq_eq_false_iff_ne]; omega
                have HCL := Lib.hid hcl
                clear hcl
                go_wp2_with fail
                refine (NA.out _).mono ?_
                rintro e w5 ⟨b5, a1, n1, c1, a2, n2, c2, f5, rfl, hq5, hb5⟩
                obtain ⟨W6, hW6⟩ : ∃ W6, W6 = w5.alloc (.cells #[.bool b5, .slice a1 n1 c1, .slice a2 n2 c2] 28) := ⟨_, rfl⟩
                have HS6 : Hid (RSt w W6 g o j cap l) := by rw [hW6]; exact (HS4.out.later hb5).later (below_alloc _ _)
                have HQ6 : Hid (a.kind = 2 → Q9 W6 (.agg #[.bool b5, .slice a1 n1 c1, .slice a2 n2 c2]) (qOf a)) := fun h => by rw [hW6]; exact (hq5 h).later (below_alloc _ _)
                have K6 : Hid (W6.cell? ⟨w5.heap.size, 0, none⟩ = some (.bool b5) ∧ W6.cell? ⟨w5.heap.size, 1, none⟩ = some (.slice a1 n1 c1) ∧ W6.cell? ⟨w5.heap.size, 2, none⟩ = some (.slice a2 n2 c2) ∧ w5.heap.size < W6.heap.size) := by
                  rw [hW6]
                  refine ⟨?_, ?_, ?_, by simp⟩ <;> (rw [World.cell?_alloc_at _ _ _ _ rfl]; rfl)
                clear hb5 hq5 NA x0 x1 x2 x3
                have h1n : 1 < j := by
                  have h2 := HON.out
                  unfold operN at h2
                  rw [if_pos HOP.out, HCL.out] at h2
                  have h3 : (2 : Nat) = j := h2
                  omega
                obtain ⟨b, hb⟩ : ∃ b, l[1]? = some b := ⟨_, List.getElem?_eq_getElem (by rw [← HL.out]; exact h1n)⟩
                have HA6 := HS6.out.elem 0 a HA.out
                rw [Nat.zero_mul, Nat.add_zero] at HA6
                have HB6 := HS6.out.elem 1 b hb
                rw [Nat.one_mul] at HB6
                have COR := fun w1 => rorder_any a b w1 (HSL.out a (List.mem_of_getElem? HA.out)) (HSL.out b (List.mem_of_getElem? hb))
                have hord : ordE a b = orderV a b := by unfold ordE; rw [if_pos ⟨all_at hall'.out HA.out, all_at hall'.out hb⟩]
                obtain ⟨z, hz9⟩ : ∃ z, z = orderV a b := ⟨_, rfl⟩
                obtain ⟨d, hd⟩ : ∃ d, d = (z == 0) := ⟨_, rfl⟩
                obtain ⟨m, hm9⟩ : ∃ m : Int, m = if d = true then 1 else 0 := ⟨_, rfl⟩
                simp only [hord, ← hz9] at COR
                have HE4 : Hid (E = (⟨1, m, 0, []⟩, 0)) := by
                  show _ = _
                  rw [HE3.out, HCL.out, hm9]
                  show (compR (fun o => decide (o = 0)) l, (0 : Int)) = _
                  unfold compR
                  rw [vat_at HA.out, vat_at hb, ← hz9]
                  rw [hd] <;> first | rfl | (by_cases hz0 : z = 0 <;> simp [hz0])
                have hd' := hd.symm
                have COR := Lib.hid COR
                have HA6 := Lib.hid HA6
                have HB6 := Lib.hid HB6
                rename_i s1 s2 s3
                have CN : Hid (∀ w1, Calls Tryz.prog 102 #[.bool d] w1 (RetV (.agg #[.int .i64 1, .int .i64 m, .int .i64 0, .string ⟨#[]⟩]) w1)) := fun w1 => hm9 ▸ truth9_any d w1
                have HRD : Hid (ResV W6.drew w.heap.size) := ⟨⟨HS6.out.res.box.kind, HS6.out.res.box.num, HS6.out.res.box.den, HS6.out.res.box.str⟩, HS6.out.res.f0, HS6.out.res.f1, HS6.out.res.f2, HS6.out.res.f3⟩
                have h0j : (0 : Int) < (j : Int) := by omega
                have h1j : (1 : Int) < (j : Int) := by omega
                clear s1 s2 s3 hd hm9 hb hord hz9 HE3 HQ6 K6 ARI
                have HG9 : Hid (g ≠ w.heap.size) := HGN.out
                go_wp2_with fail
                rw [← hW6]
                clear hW6
                go_wp2_with fail
                refine wp_region_list [.val (.slice (some ⟨g, o, none⟩) j cap), .val (.pointer (some ⟨g, o, none⟩)), .val (.agg #[.int .i64 a.kind, .int .i64 a.num, .int .i64 a.den, .string ⟨a.str.toArray⟩]), .val (.slice (some ⟨g, o, none⟩) j cap), .val (.pointer (some ⟨g, o + 4, none⟩)), .val (.agg #[.int .i64 b.kind, .int .i64 b.num, .int .i64 b.den, .string ⟨b.str.toArray⟩]), .val (.int .i64 z), .val (.bool d), .val (.agg #[.int .i64 1, .int .i64 m, .int .i64 0, .string ⟨#[]⟩]), .holds (fun _ w' => CelV w' w.heap.size (.int .i64 1) (.int .i64 m) (.int .i64 0) (.string ⟨#[]⟩)), .val (.int .i64 0)]
                  [some 101, some 102, some 103, some 104, some 105, some 106, some 107, some 108, some 109, none, some 5]
                  (fun w' => Below w.heap.size w w' ∧ RvAt w' w.heap.size ∧ VaAt w' g o a ∧ VaAt w' g (o + 4) b) (fun w1 w2 => CelV w1 w.heap.size (.int .i64 1) (.int .i64 m) (.int .i64 0) (.string ⟨#[]⟩) → CelV w2 w.heap.size (.int .i64 1) (.int .i64 m) (.int .i64 0) (.string ⟨#[]⟩)) rfl (by kernel_rfl) (by kernel_rfl) (by kernel_rfl) (by kernel_rfl) ?_ ?_ ?_ ?_
                · (intro y hy v w1 w2 hs hv; simp only [List.mem_cons, List.not_mem_nil, or_false] at hy; rcases hy with rfl | rfl | rfl | rfl | rfl | rfl | rfl | rfl | rfl | rfl | rfl; all_goals first | exact hv | exact hs hv)
                · exact ⟨HS6.out.below.drew, RvAt.of HRD.out, ⟨HA6.out.kind, HA6.out.num, HA6.out.den, HA6.out.str⟩, ⟨HB6.out.kind, HB6.out.num, HB6.out.den, HB6.out.str⟩⟩
                · intro i9 op9 ho
                  have hi : i9 < 11 := (Array.getElem?_eq_some_iff.1 ho).1
                  match i9, hi with
                  | 0, _ =>
                    obtain rfl := Option.some.inj ho
                    intro a9 wx hBx hev haf
                    rw [if_pos (wanted_none rfl)]
                    have f1 : (a9.tmps[1]?).getD undef = (.slice (some ⟨g, o, none⟩) j cap) := hev 1 (by kernel_rfl)
                    clear haf hev
                    go_simp
                    exact ⟨rfl, fun h => h, hBx⟩
                  | 1, _ =>
                    obtain rfl := Option.some.inj ho
                    intro a9 wx hBx hev haf
                    rw [if_pos (wanted_none rfl)]
                    have f101 : (a9.tmps[101]?).getD undef = (.slice (some ⟨g, o, none⟩) j cap) := haf 0 _ rfl rfl 101 rfl
                    clear haf hev
                    go_simp
                    exact ⟨rfl, fun h => h, hBx⟩
                  | 2, _ =>
                    obtain rfl := Option.some.inj ho
                    intro a9 wx hBx hev haf
                    rw [if_pos (wanted_none rfl)]
                    have f102 : (a9.tmps[102]?).getD undef = (.pointer (some ⟨g, o, none⟩)) := haf 0 _ rfl rfl 102 rfl
                    clear haf hev
                    obtain ⟨k0, k1, k2, k3⟩ := hBx.2.2.1
                    go_simp
                    exact ⟨rfl, fun h => h, hBx⟩
                  | 3, _ =>
                    obtain rfl := Option.some.inj ho
                    intro a9 wx hBx hev haf
                    rw [if_pos (wanted_none rfl)]
                    have f1 : (a9.tmps[1]?).getD undef = (.slice (some ⟨g, o, none⟩) j cap) := hev 1 (by kernel_rfl)
                    clear haf hev
                    go_simp
                    exact ⟨rfl, fun h => h, hBx⟩
                  | 4, _ =>
                    obtain rfl := Option.some.inj ho
                    intro a9 wx hBx hev haf
                    rw [if_pos (wanted_none rfl)]
                    have f104 : (a9.tmps[104]?).getD undef = (.slice (some ⟨g, o, none⟩) j cap) := haf 0 _ rfl rfl 104 rfl
                    clear haf hev
                    go_simp
                    exact ⟨rfl, fun h => h, hBx⟩
                  | 5, _ =>
                    obtain rfl := Option.some.inj ho
                    intro a9 wx hBx hev haf
                    rw [if_pos (wanted_none rfl)]
                    have f105 : (a9.tmps[105]?).getD undef = (.pointer (some ⟨g, o + 4, none⟩)) := haf 0 _ rfl rfl 105 rfl
                    clear haf hev
                    obtain ⟨k0, k1, k2, k3⟩ := hBx.2.2.2
                    go_simp
                    exact ⟨rfl, fun h => h, hBx⟩
                  | 6, _ =>
                    obtain rfl := Option.some.inj ho
                    intro a9 wx hBx hev haf
                    rw [if_pos (wanted_none rfl)]
                    have f103 : (a9.tmps[103]?).getD undef = (.agg #[.int .i64 a.kind, .int .i64 a.num, .int .i64 a.den, .string ⟨a.str.toArray⟩]) := haf 0 _ rfl rfl 103 rfl
                    have f106 : (a9.tmps[106]?).getD undef = (.agg #[.int .i64 b.kind, .int .i64 b.num, .int .i64 b.den, .string ⟨b.str.toArray⟩]) := haf 1 _ rfl rfl 106 rfl
                    clear haf hev
                    go_simp
                    exact (COR.out _).mono fun e w' ⟨he, hb⟩ => ⟨_, he, rfl, fun h => h.later hb, below_keep hBx.1 hb, hBx.2.1.later hb, hBx.2.2.1.later' hb, hBx.2.2.2.later' hb⟩
                  | 7, _ =>
                    obtain rfl := Option.some.inj ho
                    intro a9 wx hBx hev haf
                    rw [if_pos (wanted_none rfl)]
                    have f107 : (a9.tmps[107]?).getD undef = (.int .i64 z) := haf 0 _ rfl rfl 107 rfl
                    clear haf hev
                    go_simp
                    exact ⟨rfl, fun h => h, hBx⟩
                  | 8, _ =>
                    obtain rfl := Option.some.inj ho
                    intro a9 wx hBx hev haf
                    rw [if_pos (wanted_none rfl)]
                    have f108 : (a9.tmps[108]?).getD undef = (.bool d) := haf 0 _ rfl rfl 108 rfl
                    clear haf hev
                    go_simp
                    exact (CN.out _).mono fun e w' ⟨he, hb⟩ => ⟨_, he, rfl, fun h => h.later hb, below_keep hBx.1 hb, hBx.2.1.later hb, hBx.2.2.1.later' hb, hBx.2.2.2.later' hb⟩
                  | 9, _ =>
                    obtain rfl := Option.some.inj ho
                    intro a9 wx hBx hev haf
                    rw [if_pos (wanted_none rfl)]
                    have f4 : (a9.tmps[4]?).getD undef = (.pointer (some ⟨w.heap.size, 0, none⟩)) := hev 4 (by kernel_rfl)
                    have f109 : (a9.tmps[109]?).getD undef = (.agg #[.int .i64 1, .int .i64 m, .int .i64 0, .string ⟨#[]⟩]) := haf 0 _ rfl rfl 109 rfl
                    clear haf hev
                    obtain ⟨⟨v0, k0⟩, ⟨v1, k1⟩, ⟨v2, k2⟩, ⟨v3, k3⟩, q0, q1, q2, q3⟩ := hBx.2.1
                    go_simp
                    exact ⟨(hBx.2.1.cells _ _ _ _).1, fun _ => (hBx.2.1.cells _ _ _ _).1, below_set4' hBx.1 (Nat.le_refl _), (hBx.2.1.cells _ _ _ _).2, hBx.2.2.1.setFar HG9.out _ _ _ _, hBx.2.2.2.setFar HG9.out _ _ _ _⟩
                  | 10, _ =>
                    obtain rfl := Option.some.inj ho
                    intro a9 wx hBx hev haf
                    rw [if_pos (wanted_none rfl)]
                    clear haf hev
                    go_simp
                    exact ⟨rfl, fun h => h, hBx⟩
                · intro vals wx hBx hG
                  have g0 : vals 0 = (.slice (some ⟨g, o, none⟩) j cap) := hG 0 (by decide)
                  have g1 : vals 1 = (.pointer (some ⟨g, o, none⟩)) := hG 1 (by decide)
                  have g2 : vals 2 = (.agg #[.int .i64 a.kind, .int .i64 a.num, .int .i64 a.den, .string ⟨a.str.toArray⟩]) := hG 2 (by decide)
                  have g3 : vals 3 = (.slice (some ⟨g, o, none⟩) j cap) := hG 3 (by decide)
                  have g4 : vals 4 = (.pointer (some ⟨g, o + 4, none⟩)) := hG 4 (by decide)
                  have g5 : vals 5 = (.agg #[.int .i64 b.kind, .int .i64 b.num, .int .i64 b.den, .string ⟨b.str.toArray⟩]) := hG 5 (by decide)
                  have g6 : vals 6 = (.int .i64 z) := hG 6 (by decide)
                  have g7 : vals 7 = (.bool d) := hG 7 (by decide)
                  have g8 : vals 8 = (.agg #[.int .i64 1, .int .i64 m, .int .i64 0, .string ⟨#[]⟩]) := hG 8 (by decide)
                  have g9 := hG 9 (by decide)
                  have g10 : vals 10 = (.int .i64 0) := hG 10 (by decide)
                  clear hG
                  simp only [putDs, Act.put, Nat.zero_add, Nat.reduceAdd, List.setIfInBounds_toArray, List.set_cons_succ, List.set_cons_zero, g0, g1, g2, g3, g4, g5, g6, g7, g8, g10]
                  clear g0 g1 g2 g3 g4 g5 g6 g7 g8 g10
                  obtain ⟨r0, r1, r2, r3⟩ := g9
                  go_wp2
                  refine bodyPost_ret (by simp [results, Tryz.results37, go_sem, r0, r1, r2, r3]; try rfl) rfl ?_
                  exact ⟨by rw [HE4.out]; rfl, hBx.1⟩
              · skip
                have f4 : (op == (4 : Int)) = false := by rw [beq_eq_false_iff_ne]; omega
                have f5 : (op == (5 : Int)) = false := by rw [beq_eq_false_iff_ne]; omega
                have f6 : (op == (6 : Int)) = false := by rw [beq_eq_false_iff_ne]; omega
                have f19 : (op == (19 : Int)) = false := by rw [beq_eq_false_iff_ne]; omega
                have f20 : (op == (20 : Int)) = false := by rw [beq_eq_false_iff_ne]; omega
                have f13 : (op == (13 : Int)) = false := by rw [beq_eq_false_iff_ne]; omega
                have f14 : (op == (14 : Int)) = true := by rw [hcl]; rfl
                have f15 : (op == (15 : Int)) = false := by rw [beq_eq_false_iff_ne]; omega
                have f16 : (op == (16 : Int)) = false := by rw [beq_eq_false_iff_ne]; omega
                have f17 : (op == (17 : Int)) = false := by rw [beq_eq_false_iff_ne]; omega
                have f18 : (op == (18 : Int)) = false := by rw [beq_eq_false_iff_ne]; omega
                have HCL := Lib.hid hcl
                clear hcl
                go_wp2_with fail
                refine (NA.out _).mono ?_
                rintro e w5 ⟨b5, a1, n1, c1, a2, n2, c2, f5, rfl, hq5, hb5⟩
                obtain ⟨W6, hW6⟩ : ∃ W6, W6 = w5.alloc (.cells #[.bool b5, .slice a1 n1 c1, .slice a2 n2 c2] 28) := ⟨_, rfl⟩
                have HS6 : Hid (RSt w W6 g o j cap l) := by rw [hW6]; exact (HS4.out.later hb5).later (below_alloc _ _)
                have HQ6 : Hid (a.kind = 2 → Q9 W6 (.agg #[.bool b5, .slice a1 n1 c1, .slice a2 n2 c2]) (qOf a)) := fun h => by rw [hW6]; exact (hq5 h).later (below_alloc _ _)
                have K6 : Hid (W6.cell? ⟨w5.heap.size, 0, none⟩ = some (.bool b5) ∧ W6.cell? ⟨w5.heap.size, 1, none⟩ = some (.slice a1 n1 c1) ∧ W6.cell? ⟨w5.heap.size, 2, none⟩ = some (.slice a2 n2 c2) ∧ w5.heap.size < W6.heap.size) := by
                  rw [hW6]
                  refine ⟨?_, ?_, ?_, by simp⟩ <;> (rw [World.cell?_alloc_at _ _ _ _ rfl]; rfl)
                clear hb5 hq5 NA x0 x1 x2 x3
                have h1n : 1 < j := by
                  have h2 := HON.out
                  unfold operN at h2
                  rw [if_pos HOP.out, HCL.out] at h2
                  have h3 : (2 : Nat) = j := h2
                  omega
                obtain ⟨b, hb⟩ : ∃ b, l[1]? = some b := ⟨_, List.getElem?_eq_getElem (by rw [← HL.out]; exact h1n)⟩
                have HA6 := HS6.out.elem 0 a HA.out
                rw [Nat.zero_mul, Nat.add_zero] at HA6
                have HB6 := HS6.out.elem 1 b hb
                rw [Nat.one_mul] at HB6
                have COR := fun w1 => rorder_any a b w1 (HSL.out a (List.mem_of_getElem? HA.out)) (HSL.out b (List.mem_of_getElem? hb))
                have hord : ordE a b = orderV a b := by unfold ordE; rw [if_pos ⟨all_at hall'.out HA.out, all_at hall'.out hb⟩]
                obtain ⟨z, hz9⟩ : ∃ z, z = orderV a b := ⟨_, rfl⟩
                obtain ⟨d, hd⟩ : ∃ d, d = (z != 0) := ⟨_, rfl⟩
                obtain ⟨m, hm9⟩ : ∃ m : Int, m = if d = true then 1 else 0 := ⟨_, rfl⟩
                simp only [hord, ← hz9] at COR
                have HE4 : Hid (E = (⟨1, m, 0, []⟩, 0)) := by
                  show _ = _
                  rw [HE3.out, HCL.out, hm9]
                  show (compR (fun o => decide (o ≠ 0)) l, (0 : Int)) = _
                  unfold compR
                  rw [vat_at HA.out, vat_at hb, ← hz9]
                  rw [hd] <;> first | rfl | (by_cases hz0 : z = 0 <;> simp [hz0])
                have hd' := hd.symm
                have COR := Lib.hid COR
                have HA6 := Lib.hid HA6
                have HB6 := Lib.hid HB6
                rename_i s1 s2 s3
                have CN : Hid (∀ w1, Calls Tryz.prog 102 #[.bool d] w1 (RetV (.agg #[.int .i64 1, .int .i64 m, .int .i64 0, .string ⟨#[]⟩]) w1)) := fun w1 => hm9 ▸ truth9_any d w1
                have HRD : Hid (ResV W6.drew w.heap.size) := ⟨⟨HS6.out.res.box.kind, HS6.out.res.box.num, HS6.out.res.box.den, HS6.out.res.box.str⟩, HS6.out.res.f0, HS6.out.res.f1, HS6.out.res.f2, HS6.out.res.f3⟩
                have h0j : (0 : Int) < (j : Int) := by omega
                have h1j : (1 : Int) < (j : Int) := by omega
                clear s1 s2 s3 hd hm9 hb hord hz9 HE3 HQ6 K6 ARI
                have HG9 : Hid (g ≠ w.heap.size) := HGN.out
                go_wp2_with fail
                rw [← hW6]
                clear hW6
                go_wp2_with fail
                refine wp_region_list [.val (.slice (some ⟨g, o, none⟩) j cap), .val (.pointer (some ⟨g, o, none⟩)), .val (.agg #[.int .i64 a.kind, .int .i64 a.num, .int .i64 a.den, .string ⟨a.str.toArray⟩]), .val (.slice (some ⟨g, o, none⟩) j cap), .val (.pointer (some ⟨g, o + 4, none⟩)), .val (.agg #[.int .i64 b.kind, .int .i64 b.num, .int .i64 b.den, .string ⟨b.str.toArray⟩]), .val (.int .i64 z), .val (.bool d), .val (.agg #[.int .i64 1, .int .i64 m, .int .i64 0, .string ⟨#[]⟩]), .holds (fun _ w' => CelV w' w.heap.size (.int .i64 1) (.int .i64 m) (.int .i64 0) (.string ⟨#[]⟩)), .val (.int .i64 0)]
                  [some 112, some 113, some 114, some 115, some 116, some 117, some 118, some 119, some 120, none, some 5]
                  (fun w' => Below w.heap.size w w' ∧ RvAt w' w.heap.size ∧ VaAt w' g o a ∧ VaAt w' g (o + 4) b) (fun w1 w2 => CelV w1 w.heap.size (.int .i64 1) (.int .i64 m) (.int .i64 0) (.string ⟨#[]⟩) → CelV w2 w.heap.size (.int .i64 1) (.int .i64 m) (.int .i64 0) (.string ⟨#[]⟩)) rfl (by kernel_rfl) (by kernel_rfl) (by kernel_rfl) (by kernel_rfl) ?_ ?_ ?_ ?_
                · (intro y hy v w1 w2 hs hv; simp only [List.mem_cons, List.not_mem_nil, or_false] at hy; rcases hy with rfl | rfl | rfl | rfl | rfl | rfl | rfl | rfl | rfl | rfl | rfl; all_goals first | exact hv | exact hs hv)
                · exact ⟨HS6.out.below.drew, RvAt.of HRD.out, ⟨HA6.out.kind, HA6.out.num, HA6.out.den, HA6.out.str⟩, ⟨HB6.out.kind, HB6.out.num, HB6.out.den, HB6.out.str⟩⟩
                · intro i9 op9 ho
                  have hi : i9 < 11 := (Array.getElem?_eq_some_iff.1 ho).1
                  match i9, hi with
                  | 0, _ =>
                    obtain rfl := Option.some.inj ho
                    intro a9 wx hBx hev haf
                    rw [if_pos (wanted_none rfl)]
                    have f1 : (a9.tmps[1]?).getD undef = (.slice (some ⟨g, o, none⟩) j cap) := hev 1 (by kernel_rfl)
                    clear haf hev
                    go_simp
                    exact ⟨rfl, fun h => h, hBx⟩
                  | 1, _ =>
                    obtain rfl := Option.some.inj ho
                    intro a9 wx hBx hev haf
                    rw [if_pos (wanted_none rfl)]
                    have f112 : (a9.tmps[112]?).getD undef = (.slice (some ⟨g, o, none⟩) j cap) := haf 0 _ rfl rfl 112 rfl
                    clear haf hev
                    go_simp
                    exact ⟨rfl, fun h => h, hBx⟩
                  | 2, _ =>
                    obtain rfl := Option.some.inj ho
                    intro a9 wx hBx hev haf
                    rw [if_pos (wanted_none rfl)]
                    have f113 : (a9.tmps[113]?).getD undef = (.pointer (some ⟨g, o, none⟩)) := haf 0 _ rfl rfl 113 rfl
                    clear haf hev
                    obtain ⟨k0, k1, k2, k3⟩ := hBx.2.2.1
                    go_simp
                    exact ⟨rfl, fun h => h, hBx⟩
                  | 3, _ =>
                    obtain rfl := Option.some.inj ho
                    intro a9 wx hBx hev haf
                    rw [if_pos (wanted_none rfl)]
                    have f1 : (a9.tmps[1]?).getD undef = (.slice (some ⟨g, o, none⟩) j cap) := hev 1 (by kernel_rfl)
                    clear haf hev
                    go_simp
                    exact ⟨rfl, fun h => h, hBx⟩
                  | 4, _ =>
                    obtain rfl := Option.some.inj ho
                    intro a9 wx hBx hev haf
                    rw [if_pos (wanted_none rfl)]
                    have f115 : (a9.tmps[115]?).getD undef = (.slice (some ⟨g, o, none⟩) j cap) := haf 0 _ rfl rfl 115 rfl
                    clear haf hev
                    go_simp
                    exact ⟨rfl, fun h => h, hBx⟩
                  | 5, _ =>
                    obtain rfl := Option.some.inj ho
                    intro a9 wx hBx hev haf
                    rw [if_pos (wanted_none rfl)]
                    have f116 : (a9.tmps[116]?).getD undef = (.pointer (some ⟨g, o + 4, none⟩)) := haf 0 _ rfl rfl 116 rfl
                    clear haf hev
                    obtain ⟨k0, k1, k2, k3⟩ := hBx.2.2.2
                    go_simp
                    exact ⟨rfl, fun h => h, hBx⟩
                  | 6, _ =>
                    obtain rfl := Option.some.inj ho
                    intro a9 wx hBx hev haf
                    rw [if_pos (wanted_none rfl)]
                    have f114 : (a9.tmps[114]?).getD undef = (.agg #[.int .i64 a.kind, .int .i64 a.num, .int .i64 a.den, .string ⟨a.str.toArray⟩]) := haf 0 _ rfl rfl 114 rfl
                    have f117 : (a9.tmps[117]?).getD undef = (.agg #[.int .i64 b.kind, .int .i64 b.num, .int .i64 b.den, .string ⟨b.str.toArray⟩]) := haf 1 _ rfl rfl 117 rfl
                    clear haf hev
                    go_simp
                    exact (COR.out _).mono fun e w' ⟨he, hb⟩ => ⟨_, he, rfl, fun h => h.later hb, below_keep hBx.1 hb, hBx.2.1.later hb, hBx.2.2.1.later' hb, hBx.2.2.2.later' hb⟩
                  | 7, _ =>
                    obtain rfl := Option.some.inj ho
                    intro a9 wx hBx hev haf
                    rw [if_pos (wanted_none rfl)]
                    have f118 : (a9.tmps[118]?).getD undef = (.int .i64 z) := haf 0 _ rfl rfl 118 rfl
                    clear haf hev
                    go_simp
                    exact ⟨rfl, fun h => h, hBx⟩
                  | 8, _ =>
                    obtain rfl := Option.some.inj ho
                    intro a9 wx hBx hev haf
                    rw [if_pos (wanted_none rfl)]
                    have f119 : (a9.tmps[119]?).getD undef = (.bool d) := haf 0 _ rfl rfl 119 rfl
                    clear haf hev
                    go_simp
                    exact (CN.out _).mono fun e w' ⟨he, hb⟩ => ⟨_, he, rfl, fun h => h.later hb, below_keep hBx.1 hb, hBx.2.1.later hb, hBx.2.2.1.later' hb, hBx.2.2.2.later' hb⟩
                  | 9, _ =>
                    obtain rfl := Option.some.inj ho
                    intro a9 wx hBx hev haf
                    rw [if_pos (wanted_none rfl)]
                    have f4 : (a9.tmps[4]?).getD undef = (.pointer (some ⟨w.heap.size, 0, none⟩)) := hev 4 (by kernel_rfl)
                    have f120 : (a9.tmps[120]?).getD undef = (.agg #[.int .i64 1, .int .i64 m, .int .i64 0, .string ⟨#[]⟩]) := haf 0 _ rfl rfl 120 rfl
                    clear haf hev
                    obtain ⟨⟨v0, k0⟩, ⟨v1, k1⟩, ⟨v2, k2⟩, ⟨v3, k3⟩, q0, q1, q2, q3⟩ := hBx.2.1
                    go_simp
                    exact ⟨(hBx.2.1.cells _ _ _ _).1, fun _ => (hBx.2.1.cells _ _ _ _).1, below_set4' hBx.1 (Nat.le_refl _), (hBx.2.1.cells _ _ _ _).2, hBx.2.2.1.setFar HG9.out _ _ _ _, hBx.2.2.2.setFar HG9.out _ _ _ _⟩
                  | 10, _ =>
                    obtain rfl := Option.some.inj ho
                    intro a9 wx hBx hev haf
                    rw [if_pos (wanted_none rfl)]
                    clear haf hev
                    go_simp
                    exact ⟨rfl, fun h => h, hBx⟩
                · intro vals wx hBx hG
                  have g0 : vals 0 = (.slice (some ⟨g, o, none⟩) j cap) := hG 0 (by decide)
                  have g1 : vals 1 = (.pointer (some ⟨g, o, none⟩)) := hG 1 (by decide)
                  have g2 : vals 2 = (.agg #[.int .i64 a.kind, .int .i64 a.num, .int .i64 a.den, .string ⟨a.str.toArray⟩]) := hG 2 (by decide)
                  have g3 : vals 3 = (.slice (some ⟨g, o, none⟩) j cap) := hG 3 (by decide)
                  have g4 : vals 4 = (.pointer (some ⟨g, o + 4, none⟩)) := hG 4 (by decide)
                  have g5 : vals 5 = (.agg #[.int .i64 b.kind, .int .i64 b.num, .int .i64 b.den, .string ⟨b.str.toArray⟩]) := hG 5 (by decide)
                  have g6 : vals 6 = (.int .i64 z) := hG 6 (by decide)
                  have g7 : vals 7 = (.bool d) := hG 7 (by decide)
                  have g8 : vals 8 = (.agg #[.int .i64 1, .int .i64 m, .int .i64 0, .string ⟨#[]⟩]) := hG 8 (by decide)
                  have g9 := hG 9 (by decide)
                  have g10 : vals 10 = (.int .i64 0) := hG 10 (by decide)
                  clear hG
                  simp only [putDs, Act.put, Nat.zero_add, Nat.reduceAdd, List.setIfInBounds_toArray, List.set_cons_succ, List.set_cons_zero, g0, g1, g2, g3, g4, g5, g6, g7, g8, g10]
                  clear g0 g1 g2 g3 g4 g5 g6 g7 g8 g10
                  obtain ⟨r0, r1, r2, r3⟩ := g9
                  go_wp2
                  refine bodyPost_ret (by simp [results, Tryz.results37, go_sem, r0, r1, r2, r3]; try rfl) rfl ?_
                  exact ⟨by rw [HE4.out]; rfl, hBx.1⟩
              · skip
                have f4 : (op == (4 : Int)) = false := by rw [beq_eq_false_iff_ne]; omega
                have f5 : (op == (5 : Int)) = false := by rw [beq_eq_false_iff_ne]; omega
                have f6 : (op == (6 : Int)) = false := by rw [beq_eq_false_iff_ne]; omega
                have f19 : (op == (19 : Int)) = false := by rw [beq_eq_false_iff_ne]; omega
                have f20 : (op == (20 : Int)) = false := by rw [beq_eq_false_iff_ne]; omega
                have f13 : (op == (13 : Int)) = false := by rw [beq_eq_false_iff_ne]; omega
                have f14 : (op == (14 : Int)) = false := by rw [beq_eq_false_iff_ne]; omega
                have f15 : (op == (15 : Int)) = true := by rw [hcl]; rfl
                have f16 : (op == (16 : Int)) = false := by rw [beq_eq_false_iff_ne]; omega
                have f17 : (op == (17 : Int)) = false := by rw [beq_eq_false_iff_ne]; omega
                have f18 : (op == (18 : Int)) = false := by rw [beq_eq_false_iff_ne]; omega
                have HCL := Lib.hid hcl
                clear hcl
                go_wp2_with fail
                refine (NA.out _).mono ?_
                rintro e w5 ⟨b5, a1, n1, c1, a2, n2, c2, f5, rfl, hq5, hb5⟩
                obtain ⟨W6, hW6⟩ : ∃ W6, W6 = w5.alloc (.cells #[.bool b5, .slice a1 n1 c1, .slice a2 n2 c2] 28) := ⟨_, rfl⟩
                have HS6 : Hid (RSt w W6 g o j cap l) := by rw [hW6]; exact (HS4.out.later hb5).later (below_alloc _ _)
                have HQ6 : Hid (a.kind = 2 → Q9 W6 (.agg #[.bool b5, .slice a1 n1 c1, .slice a2 n2 c2]) (qOf a)) := fun h => by rw [hW6]; exact (hq5 h).later (below_alloc _ _)
                have K6 : Hid (W6.cell? ⟨w5.heap.size, 0, none⟩ = some (.bool b5) ∧ W6.cell? ⟨w5.heap.size, 1, none⟩ = some (.slice a1 n1 c1) ∧ W6.cell? ⟨w5.heap.size, 2, none⟩ = some (.slice a2 n2 c2) ∧ w5.heap.size < W6.heap.size) := by
                  rw [hW6]
                  refine ⟨?_, ?_, ?_, by simp⟩ <;> (rw [World.cell?_alloc_at _ _ _ _ rfl]; rfl)
                clear hb5 hq5 NA x0 x1 x2 x3
                have h1n : 1 < j := by
                  have h2 := HON.out
                  unfold operN at h2
                  rw [if_pos HOP.out, HCL.out] at h2
                  have h3 : (2 : Nat) = j := h2
                  omega
                obtain ⟨b, hb⟩ : ∃ b, l[1]? = some b := ⟨_, List.getElem?_eq_getElem (by rw [← HL.out]; exact h1n)⟩
                have HA6 := HS6.out.elem 0 a HA.out
                rw [Nat.zero_mul, Nat.add_zero] at HA6
                have HB6 := HS6.out.elem 1 b hb
                rw [Nat.one_mul] at HB6
                have COR := fun w1 => rorder_any a b w1 (HSL.out a (List.mem_of_getElem? HA.out)) (HSL.out b (List.mem_of_getElem? hb))
                have hord : ordE a b = orderV a b := by unfold ordE; rw [if_pos ⟨all_at hall'.out HA.out, all_at hall'.out hb⟩]
                obtain ⟨z, hz9⟩ : ∃ z, z = orderV a b := ⟨_, rfl⟩
                obtain ⟨d, hd⟩ : ∃ d, d = decide (z < 0) := ⟨_, rfl⟩
                obtain ⟨m, hm9⟩ : ∃ m : Int, m = if d = true then 1 else 0 := ⟨_, rfl⟩
                simp only [hord, ← hz9] at COR
                have HE4 : Hid (E = (⟨1, m, 0, []⟩, 0)) := by
                  show _ = _
                  rw [HE3.out, HCL.out, hm9]
                  show (compR (fun o => decide (o < 0)) l, (0 : Int)) = _
                  unfold compR
                  rw [vat_at HA.out, vat_at hb, ← hz9]
                  rw [hd] <;> first | rfl | (by_cases hz0 : z = 0 <;> simp [hz0])
                have hd' := hd.symm
                have COR := Lib.hid COR
                have HA6 := Lib.hid HA6
                have HB6 := Lib.hid HB6
                rename_i s1 s2 s3
                have CN : Hid (∀ w1, Calls Tryz.prog 102 #[.bool d] w1 (RetV (.agg #[.int .i64 1, .int .i64 m, .int .i64 0, .string ⟨#[]⟩]) w1)) := fun w1 => hm9 ▸ truth9_any d w1
                have HRD : Hid (ResV W6.drew w.heap.size) := ⟨⟨HS6.out.res.box.kind, HS6.out.res.box.num, HS6.out.res.box.den, HS6.out.res.box.str⟩, HS6.out.res.f0, HS6.out.res.f1, HS6.out.res.f2, HS6.out.res.f3⟩
                have h0j : (0 : Int) < (j : Int) := by omega
                have h1j : (1 : Int) < (j : Int) := by omega
                clear s1 s2 s3 hd hm9 hb hord hz9 HE3 HQ6 K6 ARI
                have HG9 : Hid (g ≠ w.heap.size) := HGN.out
                go_wp2_with fail
                rw [← hW6]
                clear hW6
                go_wp2_with fail
                refine wp_region_list [.val (.slice (some ⟨g, o, none⟩) j cap), .val (.pointer (some ⟨g, o, none⟩)), .val (.agg #[.int .i64 a.kind, .int .i64 a.num, .int .i64 a.den, .string ⟨a.str.toArray⟩]), .val (.slice (some ⟨g, o, none⟩) j cap), .val (.pointer (some ⟨g, o + 4, none⟩)), .val (.agg #[.int .i64 b.kind, .int .i64 b.num, .int .i64 b.den, .string ⟨b.str.toArray⟩]), .val (.int .i64 z), .val (.bool d), .val (.agg #[.int .i64 1, .int .i64 m, .int .i64 0, .string ⟨#[]⟩]), .holds (fun _ w' => CelV w' w.heap.size (.int .i64 1) (.int .i64 m) (.int .i64 0) (.string ⟨#[]⟩)), .val (.int .i64 0)]
                  [some 123, some 124, some 125, some 126, some 127, some 128, some 129, some 130, some 131, none, some 5]
                  (fun w' => Below w.heap.size w w' ∧ RvAt w' w.heap.size ∧ VaAt w' g o a ∧ VaAt w' g (o + 4) b) (fun w1 w2 => CelV w1 w.heap.size (.int .i64 1) (.int .i64 m) (.int .i64 0) (.string ⟨#[]⟩) → CelV w2 w.heap.size (.int .i64 1) (.int .i64 m) (.int .i64 0) (.string ⟨#[]⟩)) rfl (by kernel_rfl) (by kernel_rfl) (by kernel_rfl) (by kernel_rfl) ?_ ?_ ?_ ?_
                · (intro y hy v w1 w2 hs hv; simp only [List.mem_cons, List.not_mem_nil, or_false] at hy; rcases hy with rfl | rfl | rfl | rfl | rfl | rfl | rfl | rfl | rfl | rfl | rfl; all_goals first | exact hv | exact hs hv)
                · exact ⟨HS6.out.below.drew, RvAt.of HRD.out, ⟨HA6.out.kind, HA6.out.num, HA6.out.den, HA6.out.str⟩, ⟨HB6.out.kind, HB6.out.num, HB6.out.den, HB6.out.str⟩⟩
                · intro i9 op9 ho
                  have hi : i9 < 11 := (Array.getElem?_eq_some_iff.1 ho).1
                  match i9, hi with
                  | 0, _ =>
                    obtain rfl := Option.some.inj ho
                    intro a9 wx hBx hev haf
                    rw [if_pos (wanted_none rfl)]
                    have f1 : (a9.tmps[1]?).getD undef = (.slice (some ⟨g, o, none⟩) j cap) := hev 1 (by kernel_rfl)
                    clear haf hev
                    go_simp
                    exact ⟨rfl, fun h => h, hBx⟩
                  | 1, _ =>
                    obtain rfl := Option.some.inj ho
                    intro a9 wx hBx hev haf
                    rw [if_pos (wanted_none rfl)]
                    have f123 : (a9.tmps[123]?).getD undef = (.slice (some ⟨g, o, none⟩) j cap) := haf 0 _ rfl rfl 123 rfl
                    clear haf hev
                    go_simp
                    exact ⟨rfl, fun h => h, hBx⟩
                  | 2, _ =>
                    obtain rfl := Option.some.inj ho
                    intro a9 wx hBx hev haf
                    rw [if_pos (wanted_none rfl)]
                    have f124 : (a9.tmps[124]?).getD undef = (.pointer (some ⟨g, o, none⟩)) := haf 0 _ rfl rfl 124 rfl
                    clear haf hev
                    obtain ⟨k0, k1, k2, k3⟩ := hBx.2.2.1
                    go_simp
                    exact ⟨rfl, fun h => h, hBx⟩
                  | 3, _ =>
                    obtain rfl := Option.some.inj ho
                    intro a9 wx hBx hev haf
                    rw [if_pos (wanted_none rfl)]
                    have f1 : (a9.tmps[1]?).getD undef = (.slice (some ⟨g, o, none⟩) j cap) := hev 1 (by kernel_rfl)
                    clear haf hev
                    go_simp
                    exact ⟨rfl, fun h => h, hBx⟩
                  | 4, _ =>
                    obtain rfl := Option.some.inj ho
                    intro a9 wx hBx hev haf
                    rw [if_pos (wanted_none rfl)]
                    have f126 : (a9.tmps[126]?).getD undef = (.slice (some ⟨g, o, none⟩) j cap) := haf 0 _ rfl rfl 126 rfl
                    clear haf hev
                    go_simp
                    exact ⟨rfl, fun h => h, hBx⟩
                  | 5, _ =>
                    obtain rfl := Option.some.inj ho
                    intro a9 wx hBx hev haf
                    rw [if_pos (wanted_none rfl)]
                    have f127 : (a9.tmps[127]?).getD undef = (.pointer (some ⟨g, o + 4, none⟩)) := haf 0 _ rfl rfl 127 rfl
                    clear haf hev
                    obtain ⟨k0, k1, k2, k3⟩ := hBx.2.2.2
                    go_simp
                    exact ⟨rfl, fun h => h, hBx⟩
                  | 6, _ =>
                    obtain rfl := Option.some.inj ho
                    intro a9 wx hBx hev haf
                    rw [if_pos (wanted_none rfl)]
                    have f125 : (a9.tmps[125]?).getD undef = (.agg #[.int .i64 a.kind, .int .i64 a.num, .int .i64 a.den, .string ⟨a.str.toArray⟩]) := haf 0 _ rfl rfl 125 rfl
                    have f128 : (a9.tmps[128]?).getD undef = (.agg #[.int .i64 b.kind, .int .i64 b.num, .int .i64 b.den, .string ⟨b.str.toArray⟩]) := haf 1 _ rfl rfl 128 rfl
                    clear haf hev
                    go_simp
                    exact (COR.out _).mono fun e w' ⟨he, hb⟩ => ⟨_, he, rfl, fun h => h.later hb, below_keep hBx.1 hb, hBx.2.1.later hb, hBx.2.2.1.later' hb, hBx.2.2.2.later' hb⟩
                  | 7, _ =>
                    obtain rfl := Option.some.inj ho
                    intro a9 wx hBx hev haf
                    rw [if_pos (wanted_none rfl)]
                    have f129 : (a9.tmps[129]?).getD undef = (.int .i64 z) := haf 0 _ rfl rfl 129 rfl
                    clear haf hev
                    go_simp
                    exact ⟨rfl, fun h => h, hBx⟩
                  | 8, _ =>
                    obtain rfl := Option.some.inj ho
                    intro a9 wx hBx hev haf
                    rw [if_pos (wanted_none rfl)]
                    have f130 : (a9.tmps[130]?).getD undef = (.bool d) := haf 0 _ rfl rfl 130 rfl
                    clear haf hev
                    go_simp
                    exact (CN.out _).mono fun e w' ⟨he, hb⟩ => ⟨_, he, rfl, fun h => h.later hb, below_keep hBx.1 hb, hBx.2.1.later hb, hBx.2.2.1.later' hb, hBx.2.2.2.later' hb⟩
                  | 9, _ =>
                    obtain rfl := Option.some.inj ho
                    intro a9 wx hBx hev haf
                    rw [if_pos (wanted_none rfl)]
                    have f4 : (a9.tmps[4]?).getD undef = (.pointer (some ⟨w.heap.size, 0, none⟩)) := hev 4 (by kernel_rfl)
                    have f131 : (a9.tmps[131]?).getD undef = (.agg #[.int .i64 1, .int .i64 m, .int .i64 0, .string ⟨#[]⟩]) := haf 0 _ rfl rfl 131 rfl
                    clear haf hev
                    obtain ⟨⟨v0, k0⟩, ⟨v1, k1⟩, ⟨v2, k2⟩, ⟨v3, k3⟩, q0, q1, q2, q3⟩ := hBx.2.1
                    go_simp
                    exact ⟨(hBx.2.1.cells _ _ _ _).1, fun _ => (hBx.2.1.cells _ _ _ _).1, below_set4' hBx.1 (Nat.le_refl _), (hBx.2.1.cells _ _ _ _).2, hBx.2.2.1.setFar HG9.out _ _ _ _, hBx.2.2.2.setFar HG9.out _ _ _ _⟩
                  | 10, _ =>
                    obtain rfl := Option.some.inj ho
                    intro a9 wx hBx hev haf
                    rw [if_pos (wanted_none rfl)]
                    clear haf hev
                    go_simp
                    exact ⟨rfl, fun h => h, hBx⟩
                · intro vals wx hBx hG
                  have g0 : vals 0 = (.slice (some ⟨g, o, none⟩) j cap) := hG 0 (by decide)
                  have g1 : vals 1 = (.pointer (some ⟨g, o, none⟩)) := hG 1 (by decide)
                  have g2 : vals 2 = (.agg #[.int .i64 a.kind, .int .i64 a.num, .int .i64 a.den, .string ⟨a.str.toArray⟩]) := hG 2 (by decide)
                  have g3 : vals 3 = (.slice (some ⟨g, o, none⟩) j cap) := hG 3 (by decide)
                  have g4 : vals 4 = (.pointer (some ⟨g, o + 4, none⟩)) := hG 4 (by decide)
                  have g5 : vals 5 = (.agg #[.int .i64 b.kind, .int .i64 b.num, .int .i64 b.den, .string ⟨b.str.toArray⟩]) := hG 5 (by decide)
                  have g6 : vals 6 = (.int .i64 z) := hG 6 (by decide)
                  have g7 : vals 7 = (.bool d) := hG 7 (by decide)
                  have g8 : vals 8 = (.agg #[.int .i64 1, .int .i64 m, .int .i64 0, .string ⟨#[]⟩]) := hG 8 (by decide)
                  have g9 := hG 9 (by decide)
                  have g10 : vals 10 = (.int .i64 0) := hG 10 (by decide)
                  clear hG
                  simp only [putDs, Act.put, Nat.zero_add, Nat.reduceAdd, List.setIfInBounds_toArray, List.set_cons_succ, List.set_cons_zero, g0, g1, g2, g3, g4, g5, g6, g7, g8, g10]
                  clear g0 g1 g2 g3 g4 g5 g6 g7 g8 g10
                  obtain ⟨r0, r1, r2, r3⟩ := g9
                  go_wp2
                  refine bodyPost_ret (by simp [results, Tryz.results37, go_sem, r0, r1, r2, r3]; try rfl) rfl ?_
                  exact ⟨by rw [HE4.out]; rfl, hBx.1⟩
              · skip
                have f4 : (op == (4 : Int)) = false := by rw [beq_eq_false_iff_ne]; omega
                have f5 : (op == (5 : Int)) = false := by rw [beq_eq_false_iff_ne]; omega
                have f6 : (op == (6 : Int)) = false := by rw [beq_eq_false_iff_ne]; omega
                have f19 : (op == (19 : Int)) = false := by rw [beq_eq_false_iff_ne]; omega
                have f20 : (op == (20 : Int)) = false := by rw [beq_eq_false_iff_ne]; omega
                have f13 : (op == (13 : Int)) = false := by rw [beq_eq_false_iff_ne]; omega
                have f14 : (op == (14 : Int)) = false := by rw [beq_eq_false_iff_ne]; omega
                have f15 : (op == (15 : Int)) = false := by rw [beq_eq_false_iff_ne]; omega
                have f16 : (op == (16 : Int)) = true := by rw [hcl]; rfl
                have f17 : (op == (17 : Int)) = false := by rw [beq_eq_false_iff_ne]; omega
                have f18 : (op == (18 : Int)) = false := by rw [beq_eq_false_iff_ne]; omega
                have HCL := Lib.hid hcl
                clear hcl
                go_wp2_with fail
                refine (NA.out _).mono ?_
                rintro e w5 ⟨b5, a1, n1, c1, a2, n2, c2, f5, rfl, hq5, hb5⟩
                obtain ⟨W6, hW6⟩ : ∃ W6, W6 = w5.alloc (.cells #[.bool b5, .slice a1 n1 c1, .slice a2 n2 c2] 28) := ⟨_, rfl⟩
                have HS6 : Hid (RSt w W6 g o j cap l) := by rw [hW6]; exact (HS4.out.later hb5).later (below_alloc _ _)
                have HQ6 : Hid (a.kind = 2 → Q9 W6 (.agg #[.bool b5, .slice a1 n1 c1, .slice a2 n2 c2]) (qOf a)) := fun h => by rw [hW6]; exact (hq5 h).later (below_alloc _ _)
                have K6 : Hid (W6.cell? ⟨w5.heap.size, 0, none⟩ = some (.bool b5) ∧ W6.cell? ⟨w5.heap.size, 1, none⟩ = some (.slice a1 n1 c1) ∧ W6.cell? ⟨w5.heap.size, 2, none⟩ = some (.slice a2 n2 c2) ∧ w5.heap.size < W6.heap.size) := by
                  rw [hW6]
                  refine ⟨?_, ?_, ?_, by simp⟩ <;> (rw [World.cell?_alloc_at _ _ _ _ rfl]; rfl)
                clear hb5 hq5 NA x0 x1 x2 x3
                have h1n : 1 < j := by
                  have h2 := HON.out
                  unfold operN at h2
                  rw [if_pos HOP.out, HCL.out] at h2
                  have h3 : (2 : Nat) = j := h2
                  omega
                obtain ⟨b, hb⟩ : ∃ b, l[1]? = some b := ⟨_, List.getElem?_eq_getElem (by rw [← HL.out]; exact h1n)⟩
                have HA6 := HS6.out.elem 0 a HA.out
                rw [Nat.zero_mul, Nat.add_zero] at HA6
                have HB6 := HS6.out.elem 1 b hb
                rw [Nat.one_mul] at HB6
                have COR := fun w1 => rorder_any a b w1 (HSL.out a (List.mem_of_getElem? HA.out)) (HSL.out b (List.mem_of_getElem? hb))
                have hord : ordE a b = orderV a b := by unfold ordE; rw [if_pos ⟨all_at hall'.out HA.out, all_at hall'.out hb⟩]
                obtain ⟨z, hz9⟩ : ∃ z, z = orderV a b := ⟨_, rfl⟩
                obtain ⟨d, hd⟩ : ∃ d, d = decide (z ≤ 0) := ⟨_, rfl⟩
                obtain ⟨m, hm9⟩ : ∃ m : Int, m = if d = true then 1 else 0 := ⟨_, rfl⟩
                simp only [hord, ← hz9] at COR
                have HE4 : Hid (E = (⟨1, m, 0, []⟩, 0)) := by
                  show _ = _
                  rw [HE3.out, HCL.out, hm9]
                  show (compR (fun o => decide (o ≤ 0)) l, (0 : Int)) = _
                  unfold compR
                  rw [vat_at HA.out, vat_at hb, ← hz9]
                  rw [hd] <;> first | rfl | (by_cases hz0 : z = 0 <;> simp [hz0])
                have hd' := hd.symm
                have COR := Lib.hid COR
                have HA6 := Lib.hid HA6
                have HB6 := Lib.hid HB6
                rename_i s1 s2 s3
                have CN : Hid (∀ w1, Calls Tryz.prog 102 #[.bool d] w1 (RetV (.agg #[.int .i64 1, .int .i64 m, .int .i64 0, .string ⟨#[]⟩]) w1)) := fun w1 => hm9 ▸ truth9_any d w1
                have HRD : Hid (ResV W6.drew w.heap.size) := ⟨⟨HS6.out.res.box.kind, HS6.out.res.box.num, HS6.out.res.box.den, HS6.out.res.box.str⟩, HS6.out.res.f0, HS6.out.res.f1, HS6.out.res.f2, HS6.out.res.f3⟩
                have h0j : (0 : Int) < (j : Int) := by omega
                have h1j : (1 : Int) < (j : Int) := by omega
                clear s1 s2 s3 hd hm9 hb hord hz9 HE3 HQ6 K6 ARI
                have HG9 : Hid (g ≠ w.heap.size) := HGN.out
                go_wp2_with fail
                rw [← hW6]
                clear hW6
                go_wp2_with fail
                refine wp_region_list [.val (.slice (some ⟨g, o, none⟩) j cap), .val (.pointer (some ⟨g, o, none⟩)), .val (.agg #[.int .i64 a.kind, .int .i64 a.num, .int .i64 a.den, .string ⟨a.str.toArray⟩]), .val (.slice (some ⟨g, o, none⟩) j cap), .val (.pointer (some ⟨g, o + 4, none⟩)), .val (.agg #[.int .i64 b.kind, .int .i64 b.num, .int .i64 b.den, .string ⟨b.str.toArray⟩]), .val (.int .i64 z), .val (.bool d), .val (.agg #[.int .i64 1, .int .i64 m, .int .i64 0, .string ⟨#[]⟩]), .holds (fun _ w' => CelV w' w.heap.size (.int .i64 1) (.int .i64 m) (.int .i64 0) (.string ⟨#[]⟩)), .val (.int .i64 0)]
                  [some 134, some 135, some 136, some 137, some 138, some 139, some 140, some 141, some 142, none, some 5]
                  (fun w' => Below w.heap.size w w' ∧ RvAt w' w.heap.size ∧ VaAt w' g o a ∧ VaAt w' g (o + 4) b) (fun w1 w2 => CelV w1 w.heap.size (.int .i64 1) (.int .i64 m) (.int .i64 0) (.string ⟨#[]⟩) → CelV w2 w.heap.size (.int .i64 1) (.int .i64 m) (.int .i64 0) (.string ⟨#[]⟩)) rfl (by kernel_rfl) (by kernel_rfl) (by kernel_rfl) (by kernel_rfl) ?_ ?_ ?_ ?_
                · (intro y hy v w1 w2 hs hv; simp only [List.mem_cons, List.not_mem_nil, or_false] at hy; rcases hy with rfl | rfl | rfl | rfl | rfl | rfl | rfl | rfl | rfl | rfl | rfl; all_goals first | exact hv | exact hs hv)
                · exact ⟨HS6.out.below.drew, RvAt.of HRD.out, ⟨HA6.out.kind, HA6.out.num, HA6.out.den, HA6.out.str⟩, ⟨HB6.out.kind, HB6.out.num, HB6.out.den, HB6.out.str⟩⟩
                · intro i9 op9 ho
                  have hi : i9 < 11 := (Array.getElem?_eq_some_iff.1 ho).1
                  match i9, hi with
                  | 0, _ =>
                    obtain rfl := Option.some.inj ho
                    intro a9 wx hBx hev haf
                    rw [if_pos (wanted_none rfl)]
                    have f1 : (a9.tmps[1]?).getD undef = (.slice (some ⟨g, o, none⟩) j cap) := hev 1 (by kernel_rfl)
                    clear haf hev
                    go_simp
                    exact ⟨rfl, fun h => h, hBx⟩
                  | 1, _ =>
                    obtain rfl := Option.some.inj ho
                    intro a9 wx hBx hev haf
                    rw [if_pos (wanted_none rfl)]
                    have f134 : (a9.tmps[134]?).getD undef = (.slice (some ⟨g, o, none⟩) j cap) := haf 0 _ rfl rfl 134 rfl
                    clear haf hev
                    go_simp
                    exact ⟨rfl, fun h => h, hBx⟩
                  | 2, _ =>
                    obtain rfl := Option.some.inj ho
                    intro a9 wx hBx hev haf
                    rw [if_pos (wanted_none rfl)]
                    have f135 : (a9.tmps[135]?).getD undef = (.pointer (some ⟨g, o, none⟩)) := haf 0 _ rfl rfl 135 rfl
                    clear haf hev
                    obtain ⟨k0, k1, k2, k3⟩ := hBx.2.2.1
                    go_simp
                    exact ⟨rfl, fun h => h, hBx⟩
                  | 3, _ =>
                    obtain rfl := Option.some.inj ho
                    intro a9 wx hBx hev haf
                    rw [if_pos (wanted_none rfl)]
                    have f1 : (a9.tmps[1]?).getD undef = (.slice (some ⟨g, o, none⟩) j cap) := hev 1 (by kernel_rfl)
                    clear haf hev
                    go_simp
                    exact ⟨rfl, fun h => h, hBx⟩
                  | 4, _ =>
                    obtain rfl := Option.some.inj ho
                    intro a9 wx hBx hev haf
                    rw [if_pos (wanted_none rfl)]
                    have f137 : (a9.tmps[137]?).getD undef = (.slice (some ⟨g, o, none⟩) j cap) := haf 0 _ rfl rfl 137 rfl
                    clear haf hev
                    go_simp
                    exact ⟨rfl, fun h => h, hBx⟩
                  | 5, _ =>
                    obtain rfl := Option.some.inj ho
                    intro a9 wx hBx hev haf
                    rw [if_pos (wanted_none rfl)]
                    have f138 : (a9.tmps[138]?).getD undef = (.pointer (some ⟨g, o + 4, none⟩)) := haf 0 _ rfl rfl 138 rfl
                    clear haf hev
                    obtain ⟨k0, k1, k2, k3⟩ := hBx.2.2.2
                    go_simp
                    exact ⟨rfl, fun h => h, hBx⟩
                  | 6, _ =>
                    obtain rfl := Option.some.inj ho
                    intro a9 wx hBx hev haf
                    rw [if_pos (wanted_none rfl)]
                    have f136 : (a9.tmps[136]?).getD undef = (.agg #[.int .i64 a.kind, .int .i64 a.num, .int .i64 a.den, .string ⟨a.str.toArray⟩]) := haf 0 _ rfl rfl 136 rfl
                    have f139 : (a9.tmps[139]?).getD undef = (.agg #[.int .i64 b.kind, .int .i64 b.num, .int .i64 b.den, .string ⟨b.str.toArray⟩]) := haf 1 _ rfl rfl 139 rfl
                    clear haf hev
                    go_simp
                    exact (COR.out _).mono fun e w' ⟨he, hb⟩ => ⟨_, he, rfl, fun h => h.later hb, below_keep hBx.1 hb, hBx.2.1.later hb, hBx.2.2.1.later' hb, hBx.2.2.2.later' hb⟩
                  | 7, _ =>
                    obtain rfl := Option.some.inj ho
                    intro a9 wx hBx hev haf
                    rw [if_pos (wanted_none rfl)]
                    have f140 : (a9.tmps[140]?).getD undef = (.int .i64 z) := haf 0 _ rfl rfl 140 rfl
                    clear haf hev
                    go_simp
                    exact ⟨rfl, fun h => h, hBx⟩
                  | 8, _ =>
                    obtain rfl := Option.some.inj ho
                    intro a9 wx hBx hev haf
                    rw [if_pos (wanted_none rfl)]
                    have f141 : (a9.tmps[141]?).getD undef = (.bool d) := haf 0 _ rfl rfl 141 rfl
                    clear haf hev
                    go_simp
                    exact (CN.out _).mono fun e w' ⟨he, hb⟩ => ⟨_, he, rfl, fun h => h.later hb, below_keep hBx.1 hb, hBx.2.1.later hb, hBx.2.2.1.later' hb, hBx.2.2.2.later' hb⟩
                  | 9, _ =>
                    obtain rfl := Option.some.inj ho
                    intro a9 wx hBx hev haf
                    rw [if_pos (wanted_none rfl)]
                    have f4 : (a9.tmps[4]?).getD undef = (.pointer (some ⟨w.heap.size, 0, none⟩)) := hev 4 (by kernel_rfl)
                    have f142 : (a9.tmps[142]?).getD undef = (.agg #[.int .i64 1, .int .i64 m, .int .i64 0, .string ⟨#[]⟩]) := haf 0 _ rfl rfl 142 rfl
                    clear haf hev
                    obtain ⟨⟨v0, k0⟩, ⟨v1, k1⟩, ⟨v2, k2⟩, ⟨v3, k3⟩, q0, q1, q2, q3⟩ := hBx.2.1
                    go_simp
                    exact ⟨(hBx.2.1.cells _ _ _ _).1, fun _ => (hBx.2.1.cells _ _ _ _).1, below_set4' hBx.1 (Nat.le_refl _), (hBx.2.1.cells _ _ _ _).2, hBx.2.2.1.setFar HG9.out _ _ _ _, hBx.2.2.2.setFar HG9.out _ _ _ _⟩
                  | 10, _ =>
                    obtain rfl := Option.some.inj ho
                    intro a9 wx hBx hev haf
                    rw [if_pos (wanted_none rfl)]
                    clear haf hev
                    go_simp
                    exact ⟨rfl, fun h => h, hBx⟩
                · intro vals wx hBx hG
                  have g0 : vals 0 = (.slice (some ⟨g, o, none⟩) j cap) := hG 0 (by decide)
                  have g1 : vals 1 = (.pointer (some ⟨g, o, none⟩)) := hG 1 (by decide)
                  have g2 : vals 2 = (.agg #[.int .i64 a.kind, .int .i64 a.num, .int .i64 a.den, .string ⟨a.str.toArray⟩]) := hG 2 (by decide)
                  have g3 : vals 3 = (.slice (some ⟨g, o, none⟩) j cap) := hG 3 (by decide)
                  have g4 : vals 4 = (.pointer (some ⟨g, o + 4, none⟩)) := hG 4 (by decide)
                  have g5 : vals 5 = (.agg #[.int .i64 b.kind, .int .i64 b.num, .int .i64 b.den, .string ⟨b.str.toArray⟩]) := hG 5 (by decide)
                  have g6 : vals 6 = (.int .i64 z) := hG 6 (by decide)
                  have g7 : vals 7 = (.bool d) := hG 7 (by decide)
                  have g8 : vals 8 = (.agg #[.int .i64 1, .int .i64 m, .int .i64 0, .string ⟨#[]⟩]) := hG 8 (by decide)
                  have g9 := hG 9 (by decide)
                  have g10 : vals 10 = (.int .i64 0) := hG 10 (by decide)
                  clear hG
                  simp only [putDs, Act.put, Nat.zero_add, Nat.reduceAdd, List.setIfInBounds_toArray, List.set_cons_succ, List.set_cons_zero, g0, g1, g2, g3, g4, g5, g6, g7, g8, g10]
                  clear g0 g1 g2 g3 g4 g5 g6 g7 g8 g10
                  obtain ⟨r0, r1, r2, r3⟩ := g9
                  go_wp2
                  refine bodyPost_ret (by simp [results, Tryz.results37, go_sem, r0, r1, r2, r3]; try rfl) rfl ?_
                  exact ⟨by rw [HE4.out]; rfl, hBx.1⟩
              · skip
                have f4 : (op == (4 : Int)) = false := by rw [beq_eq_false_iff_ne]; omega
                have f5 : (op == (5 : Int)) = false := by rw [beq_eq_false_iff_ne]; omega
                have f6 : (op == (6 : Int)) = false := by rw [beq_eq_false_iff_ne]; omega
                have f19 : (op == (19 : Int)) = false := by rw [beq_eq_false_iff_ne]; omega
                have f20 : (op == (20 : Int)) = false := by rw [beq_eq_false_iff_ne]; omega
                have f13 : (op == (13 : Int)) = false := by rw [beq_eq_false_iff_ne]; omega
                have f14 : (op == (14 : Int)) = false := by rw [beq_eq_false_iff_ne]; omega
                have f15 : (op == (15 : Int)) = false := by rw [beq_eq_false_iff_ne]; omega
                have f16 : (op == (16 : Int)) = false := by rw [beq_eq_false_iff_ne]; omega
                have f17 : (op == (17 : Int)) = true := by rw [hcl]; rfl
                have f18 : (op == (18 : Int)) = false := by rw [beq_eq_false_iff_ne]; omega
                have HCL := Lib.hid hcl
                clear hcl
                go_wp2_with fail
                refine (NA.out _).mono ?_
                rintro e w5 ⟨b5, a1, n1, c1, a2, n2, c2, f5, rfl, hq5, hb5⟩
                obtain ⟨W6, hW6⟩ : ∃ W6, W6 = w5.alloc (.cells #[.bool b5, .slice a1 n1 c1, .slice a2 n2 c2] 28) := ⟨_, rfl⟩
                have HS6 : Hid (RSt w W6 g o j cap l) := by rw [hW6]; exact (HS4.out.later hb5).later (below_alloc _ _)
                have HQ6 : Hid (a.kind = 2 → Q9 W6 (.agg #[.bool b5, .slice a1 n1 c1, .slice a2 n2 c2]) (qOf a)) := fun h => by rw [hW6]; exact (hq5 h).later (below_alloc _ _)
                have K6 : Hid (W6.cell? ⟨w5.heap.size, 0, none⟩ = some (.bool b5) ∧ W6.cell? ⟨w5.heap.size, 1, none⟩ = some (.slice a1 n1 c1) ∧ W6.cell? ⟨w5.heap.size, 2, none⟩ = some (.slice a2 n2 c2) ∧ w5.heap.size < W6.heap.size) := by
                  rw [hW6]
                  refine ⟨?_, ?_, ?_, by simp⟩ <;> (rw [World.cell?_alloc_at _ _ _ _ rfl]; rfl)
                clear hb5 hq5 NA x0 x1 x2 x3
                have h1n : 1 < j := by
                  have h2 := HON.out
                  unfold operN at h2
                  rw [if_pos HOP.out, HCL.out] at h2
                  have h3 : (2 : Nat) = j := h2
                  omega
                obtain ⟨b, hb⟩ : ∃ b, l[1]? = some b := ⟨_, List.getElem?_eq_getElem (by rw [← HL.out]; exact h1n)⟩
                have HA6 := HS6.out.elem 0 a HA.out
                rw [Nat.zero_mul, Nat.add_zero] at HA6
                have HB6 := HS6.out.elem 1 b hb
                rw [Nat.one_mul] at HB6
                have COR := fun w1 => rorder_any a b w1 (HSL.out a (List.mem_of_getElem? HA.out)) (HSL.out b (List.mem_of_getElem? hb))
                have hord : ordE a b = orderV a b := by unfold ordE; rw [if_pos ⟨all_at hall'.out HA.out, all_at hall'.out hb⟩]
                obtain ⟨z, hz9⟩ : ∃ z, z = orderV a b := ⟨_, rfl⟩
                obtain ⟨d, hd⟩ : ∃ d, d = decide (0 < z) := ⟨_, rfl⟩
                obtain ⟨m, hm9⟩ : ∃ m : Int, m = if d = true then 1 else 0 := ⟨_, rfl⟩
                simp only [hord, ← hz9] at COR
                have HE4 : Hid (E = (⟨1, m, 0, []⟩, 0)) := by
                  show _ = _
                  rw [HE3.out, HCL.out, hm9]
                  show (compR (fun o => decide (0 < o)) l, (0 : Int)) = _
                  unfold compR
                  rw [vat_at HA.out, vat_at hb, ← hz9]
                  rw [hd] <;> first | rfl | (by_cases hz0 : z = 0 <;> simp [hz0])
                have hd' := hd.symm
                have COR := Lib.hid COR
                have HA6 := Lib.hid HA6
                have HB6 := Lib.hid HB6
                rename_i s1 s2 s3
                have CN : Hid (∀ w1, Calls Tryz.prog 102 #[.bool d] w1 (RetV (.agg #[.int .i64 1, .int .i64 m, .int .i64 0, .string ⟨#[]⟩]) w1)) := fun w1 => hm9 ▸ truth9_any d w1
                have HRD : Hid (ResV W6.drew w.heap.size) := ⟨⟨HS6.out.res.box.kind, HS6.out.res.box.num, HS6.out.res.box.den, HS6.out.res.box.str⟩, HS6.out.res.f0, HS6.out.res.f1, HS6.out.res.f2, HS6.out.res.f3⟩
                have h0j : (0 : Int) < (j : Int) := by omega
                have h1j : (1 : Int) < (j : Int) := by omega
                clear s1 s2 s3 hd hm9 hb hord hz9 HE3 HQ6 K6 ARI
                have HG9 : Hid (g ≠ w.heap.size) := HGN.out
                go_wp2_with fail
                rw [← hW6]
                clear hW6
                go_wp2_with fail
                refine wp_region_list [.val (.slice (some ⟨g, o, none⟩) j cap), .val (.pointer (some ⟨g, o, none⟩)), .val (.agg #[.int .i64 a.kind, .int .i64 a.num, .int .i64 a.den, .string ⟨a.str.toArray⟩]), .val (.slice (some ⟨g, o, none⟩) j cap), .val (.pointer (some ⟨g, o + 4, none⟩)), .val (.agg #[.int .i64 b.kind, .int .i64 b.num, .int .i64 b.den, .string ⟨b.str.toArray⟩]), .val (.int .i64 z), .val (.bool d), .val (.agg #[.int .i64 1, .int .i64 m, .int .i64 0, .string ⟨#[]⟩]), .holds (fun _ w' => CelV w' w.heap.size (.int .i64 1) (.int .i64 m) (.int .i64 0) (.string ⟨#[]⟩)), .val (.int .i64 0)]
                  [some 145, some 146, some 147, some 148, some 149, some 150, some 151, some 152, some 153, none, some 5]
                  (fun w' => Below w.heap.size w w' ∧ RvAt w' w.heap.size ∧ VaAt w' g o a ∧ VaAt w' g (o + 4) b) (fun w1 w2 => CelV w1 w.heap.size (.int .i64 1) (.int .i64 m) (.int .i64 0) (.string ⟨#[]⟩) → CelV w2 w.heap.size (.int .i64 1) (.int .i64 m) (.int .i64 0) (.string ⟨#[]⟩)) rfl (by kernel_rfl) (by kernel_rfl) (by kernel_rfl) (by kernel_rfl) ?_ ?_ ?_ ?_
                · (intro y hy v w1 w2 hs hv; simp only [List.mem_cons, List.not_mem_nil, or_false] at hy; rcases hy with rfl | rfl | rfl | rfl | rfl | rfl | rfl | rfl | rfl | rfl | rfl; all_goals first | exact hv | exact hs hv)
                · exact ⟨HS6.out.below.drew, RvAt.of HRD.out, ⟨HA6.out.kind, HA6.out.num, HA6.out.den, HA6.out.str⟩, ⟨HB6.out.kind, HB6.out.num, HB6.out.den, HB6.out.str⟩⟩
                · intro i9 op9 ho
                  have hi : i9 < 11 := (Array.getElem?_eq_some_iff.1 ho).1
                  match i9, hi with
                  | 0, _ =>
                    obtain rfl := Option.some.inj ho
                    intro a9 wx hBx hev haf
                    rw [if_pos (wanted_none rfl)]
                    have f1 : (a9.tmps[1]?).getD undef = (.slice (some ⟨g, o, none⟩) j cap) := hev 1 (by kernel_rfl)
                    clear haf hev
                    go_simp
                    exact ⟨rfl, fun h => h, hBx⟩
                  | 1, _ =>
                    obtain rfl := Option.some.inj ho
                    intro a9 wx hBx hev haf
                    rw [if_pos (wanted_none rfl)]
                    have f145 : (a9.tmps[145]?).getD undef = (.slice (some ⟨g, o, none⟩) j cap) := haf 0 _ rfl rfl 145 rfl
                    clear haf hev
                    go_simp
                    exact ⟨rfl, fun h => h, hBx⟩
                  | 2, _ =>
                    obtain rfl := Option.some.inj ho
                    intro a9 wx hBx hev haf
                    rw [if_pos (wanted_none rfl)]
                    have f146 : (a9.tmps[146]?).getD undef = (.pointer (some ⟨g, o, none⟩)) := haf 0 _ rfl rfl 146 rfl
                    clear haf hev
                    obtain ⟨k0, k1, k2, k3⟩ := hBx.2.2.1
                    go_simp
                    exact ⟨rfl, fun h => h, hBx⟩
                  | 3, _ =>
                    obtain rfl := Option.some.inj ho
                    intro a9 wx hBx hev haf
                    rw [if_pos (wanted_none rfl)]
                    have f1 : (a9.tmps[1]?).getD undef = (.slice (some ⟨g, o, none⟩) j cap) := hev 1 (by kernel_rfl)
                    clear haf hev
                    go_simp
                    exact ⟨rfl, fun h => h, hBx⟩
                  | 4, _ =>
                    obtain rfl := Option.some.inj ho
                    intro a9 wx hBx hev haf
                    rw [if_pos (wanted_none rfl)]
                    have f148 : (a9.tmps[148]?).getD undef = (.slice (some ⟨g, o, none⟩) j cap) := haf 0 _ rfl rfl 148 rfl
                    clear haf hev
                    go_simp
                    exact ⟨rfl, fun h => h, hBx⟩
                  | 5, _ =>
                    obtain rfl := Option.some.inj ho
                    intro a9 wx hBx hev haf
                    rw [if_pos (wanted_none rfl)]
                    have f149 : (a9.tmps[149]?).getD undef = (.pointer (some ⟨g, o + 4, none⟩)) := haf 0 _ rfl rfl 149 rfl
                    clear haf hev
                    obtain ⟨k0, k1, k2, k3⟩ := hBx.2.2.2
                    go_simp
                    exact ⟨rfl, fun h => h, hBx⟩
                  | 6, _ =>
                    obtain rfl := Option.some.inj ho
                    intro a9 wx hBx hev haf
                    rw [if_pos (wanted_none rfl)]
                    have f147 : (a9.tmps[147]?).getD undef = (.agg #[.int .i64 a.kind, .int .i64 a.num, .int .i64 a.den, .string ⟨a.str.toArray⟩]) := haf 0 _ rfl rfl 147 rfl
                    have f150 : (a9.tmps[150]?).getD undef = (.agg #[.int .i64 b.kind, .int .i64 b.num, .int .i64 b.den, .string ⟨b.str.toArray⟩]) := haf 1 _ rfl rfl 150 rfl
                    clear haf hev
                    go_simp
                    exact (COR.out _).mono fun e w' ⟨he, hb⟩ => ⟨_, he, rfl, fun h => h.later hb, below_keep hBx.1 hb, hBx.2.1.later hb, hBx.2.2.1.later' hb, hBx.2.2.2.later' hb⟩
                  | 7, _ =>
                    obtain rfl := Option.some.inj ho
                    intro a9 wx hBx hev haf
                    rw [if_pos (wanted_none rfl)]
                    have f151 : (a9.tmps[151]?).getD undef = (.int .i64 z) := haf 0 _ rfl rfl 151 rfl
                    clear haf hev
                    go_simp
                    exact ⟨rfl, fun h => h, hBx⟩
                  | 8, _ =>
                    obtain rfl := Option.some.inj ho
                    intro a9 wx hBx hev haf
                    rw [if_pos (wanted_none rfl)]
                    have f152 : (a9.tmps[152]?).getD undef = (.bool d) := haf 0 _ rfl rfl 152 rfl
                    clear haf hev
                    go_simp
                    exact (CN.out _).mono fun e w' ⟨he, hb⟩ => ⟨_, he, rfl, fun h => h.later hb, below_keep hBx.1 hb, hBx.2.1.later hb, hBx.2.2.1.later' hb, hBx.2.2.2.later' hb⟩
                  | 9, _ =>
                    obtain rfl := Option.some.inj ho
                    intro a9 wx hBx hev haf
                    rw [if_pos (wanted_none rfl)]
                    have f4 : (a9.tmps[4]?).getD undef = (.pointer (some ⟨w.heap.size, 0, none⟩)) := hev 4 (by kernel_rfl)
                    have f153 : (a9.tmps[153]?).getD undef = (.agg #[.int .i64 1, .int .i64 m, .int .i64 0, .string ⟨#[]⟩]) := haf 0 _ rfl rfl 153 rfl
                    clear haf hev
                    obtain ⟨⟨v0, k0⟩, ⟨v1, k1⟩, ⟨v2, k2⟩, ⟨v3, k3⟩, q0, q1, q2, q3⟩ := hBx.2.1
                    go_simp
                    exact ⟨(hBx.2.1.cells _ _ _ _).1, fun _ => (hBx.2.1.cells _ _ _ _).1, below_set4' hBx.1 (Nat.le_refl _), (hBx.2.1.cells _ _ _ _).2, hBx.2.2.1.setFar HG9.out _ _ _ _, hBx.2.2.2.setFar HG9.out _ _ _ _⟩
                  | 10, _ =>
                    obtain rfl := Option.some.inj ho
                    intro a9 wx hBx hev haf
                    rw [if_pos (wanted_none rfl)]
                    clear haf hev
                    go_simp
                    exact ⟨rfl, fun h => h, hBx⟩
                · intro vals wx hBx hG
                  have g0 : vals 0 = (.slice (some ⟨g, o, none⟩) j cap) := hG 0 (by decide)
                  have g1 : vals 1 = (.pointer (some ⟨g, o, none⟩)) := hG 1 (by decide)
                  have g2 : vals 2 = (.agg #[.int .i64 a.kind, .int .i64 a.num, .int .i64 a.den, .string ⟨a.str.toArray⟩]) := hG 2 (by decide)
                  have g3 : vals 3 = (.slice (some ⟨g, o, none⟩) j cap) := hG 3 (by decide)
                  have g4 : vals 4 = (.pointer (some ⟨g, o + 4, none⟩)) := hG 4 (by decide)
                  have g5 : vals 5 = (.agg #[.int .i64 b.kind, .int .i64 b.num, .int .i64 b.den, .string ⟨b.str.toArray⟩]) := hG 5 (by decide)
                  have g6 : vals 6 = (.int .i64 z) := hG 6 (by decide)
                  have g7 : vals 7 = (.bool d) := hG 7 (by decide)
                  have g8 : vals 8 = (.agg #[.int .i64 1, .int .i64 m, .int .i64 0, .string ⟨#[]⟩]) := hG 8 (by decide)
                  have g9 := hG 9 (by decide)
                  have g10 : vals 10 = (.int .i64 0) := hG 10 (by decide)
                  clear hG
                  simp only [putDs, Act.put, Nat.zero_add, Nat.reduceAdd, List.setIfInBounds_toArray, List.set_cons_succ, List.set_cons_zero, g0, g1, g2, g3, g4, g5, g6, g7, g8, g10]
                  clear g0 g1 g2 g3 g4 g5 g6 g7 g8 g10
                  obtain ⟨r0, r1, r2, r3⟩ := g9
                  go_wp2
                  refine bodyPost_ret (by simp [results, Tryz.results37, go_sem, r0, r1, r2, r3]; try rfl) rfl ?_
                  exact ⟨by rw [HE4.out]; rfl, hBx.1⟩
              · skip
                have f4 : (op == (4 : Int)) = false := by rw [beq_eq_false_iff_ne]; omega
                have f5 : (op == (5 : Int)) = false := by rw [beq_eq_false_iff_ne]; omega
                have f6 : (op == (6 : Int)) = false := by rw [beq_eq_false_iff_ne]; omega
                have f19 : (op == (19 : Int)) = false := by rw [beq_eq_false_iff_ne]; omega
                have f20 : (op == (20 : Int)) = false := by rw [beq_eq_false_iff_ne]; omega
                have f13 : (op == (13 : Int)) = false := by rw [beq_eq_false_iff_ne]; omega
                have f14 : (op == (14 : Int)) = false := by rw [beq_eq_false_iff_ne]; omega
                have f15 : (op == (15 : Int)) = false := by rw [beq_eq_false_iff_ne]; omega
                have f16 : (op == (16 : Int)) = false := by rw [beq_eq_false_iff_ne]; omega
                have f17 : (op == (17 : Int)) = false := by rw [beq_eq_false_iff_ne]; omega
                have f18 : (op == (18 : Int)) = true := by rw [hcl]; rfl
                have HCL := Lib.hid hcl
                clear hcl
                go_wp2_with fail
                refine (NA.out _).mono ?_
                rintro e w5 ⟨b5, a1, n1, c1, a2, n2, c2, f5, rfl, hq5, hb5⟩
                obtain ⟨W6, hW6⟩ : ∃ W6, W6 = w5.alloc (.cells #[.bool b5, .slice a1 n1 c1, .slice a2 n2 c2] 28) := ⟨_, rfl⟩
                have HS6 : Hid (RSt w W6 g o j cap l) := by rw [hW6]; exact (HS4.out.later hb5).later (below_alloc _ _)
                have HQ6 : Hid (a.kind = 2 → Q9 W6 (.agg #[.bool b5, .slice a1 n1 c1, .slice a2 n2 c2]) (qOf a)) := fun h => by rw [hW6]; exact (hq5 h).later (below_alloc _ _)
                have K6 : Hid (W6.cell? ⟨w5.heap.size, 0, none⟩ = some (.bool b5) ∧ W6.cell? ⟨w5.heap.size, 1, none⟩ = some (.slice a1 n1 c1) ∧ W6.cell? ⟨w5.heap.size, 2, none⟩ = some (.slice a2 n2 c2) ∧ w5.heap.size < W6.heap.size) := by
                  rw [hW6]
                  refine ⟨?_, ?_, ?_, by simp⟩ <;> (rw [World.cell?_alloc_at _ _ _ _ rfl]; rfl)
                clear hb5 hq5 NA x0 x1 x2 x3
                have h1n : 1 < j := by
                  have h2 := HON.out
                  unfold operN at h2
                  rw [if_pos HOP.out, HCL.out] at h2
                  have h3 : (2 : Nat) = j := h2
                  omega
                obtain ⟨b, hb⟩ : ∃ b, l[1]? = some b := ⟨_, List.getElem?_eq_getElem (by rw [← HL.out]; exact h1n)⟩
                have HA6 := HS6.out.elem 0 a HA.out
                rw [Nat.zero_mul, Nat.add_zero] at HA6
                have HB6 := HS6.out.elem 1 b hb
                rw [Nat.one_mul] at HB6
                have COR := fun w1 => rorder_any a b w1 (HSL.out a (List.mem_of_getElem? HA.out)) (HSL.out b (List.mem_of_getElem? hb))
                have hord : ordE a b = orderV a b := by unfold ordE; rw [if_pos ⟨all_at hall'.out HA.out, all_at hall'.out hb⟩]
                obtain ⟨z, hz9⟩ : ∃ z, z = orderV a b := ⟨_, rfl⟩
                obtain ⟨d, hd⟩ : ∃ d, d = decide (0 ≤ z) := ⟨_, rfl⟩
                obtain ⟨m, hm9⟩ : ∃ m : Int, m = if d = true then 1 else 0 := ⟨_, rfl⟩
                simp only [hord, ← hz9] at COR
                have HE4 : Hid (E = (⟨1, m, 0, []⟩, 0)) := by
                  show _ = _
                  rw [HE3.out, HCL.out, hm9]
                  show (compR (fun o => decide (0 ≤ o)) l, (0 : Int)) = _
                  unfold compR
                  rw [vat_at HA.out, vat_at hb, ← hz9]
                  rw [hd] <;> first | rfl | (by_cases hz0 : z = 0 <;> simp [hz0])
                have hd' := hd.symm
                have COR := Lib.hid COR
                have HA6 := Lib.hid HA6
                have HB6 := Lib.hid HB6
                rename_i s1 s2 s3
                have CN : Hid (∀ w1, Calls Tryz.prog 102 #[.bool d] w1 (RetV (.agg #[.int .i64 1, .int .i64 m, .int .i64 0, .string ⟨#[]⟩]) w1)) := fun w1 => hm9 ▸ truth9_any d w1
                have HRD : Hid (ResV W6.drew w.heap.size) := ⟨⟨HS6.out.res.box.kind, HS6.out.res.box.num, HS6.out.res.box.den, HS6.out.res.box.str⟩, HS6.out.res.f0, HS6.out.res.f1, HS6.out.res.f2, HS6.out.res.f3⟩
                have h0j : (0 : Int) < (j : Int) := by omega
                have h1j : (1 : Int) < (j : Int) := by omega
                clear s1 s2 s3 hd hm9 hb hord hz9 HE3 HQ6 K6 ARI
                have HG9 : Hid (g ≠ w.heap.size) := HGN.out
                go_wp2_with fail
                rw [← hW6]
                clear hW6
                go_wp2_with fail
                refine wp_region_list [.val (.slice (some ⟨g, o, none⟩) j cap), .val (.pointer (some ⟨g, o, none⟩)), .val (.agg #[.int .i64 a.kind, .int .i64 a.num, .int .i64 a.den, .string ⟨a.str.toArray⟩]), .val (.slice (some ⟨g, o, none⟩) j cap), .val (.pointer (some ⟨g, o + 4, none⟩)), .val (.agg #[.int .i64 b.kind, .int .i64 b.num, .int .i64 b.den, .string ⟨b.str.toArray⟩]), .val (.int .i64 z), .val (.bool d), .val (.agg #[.int .i64 1, .int .i64 m, .int .i64 0, .string ⟨#[]⟩]), .holds (fun _ w' => CelV w' w.heap.size (.int .i64 1) (.int .i64 m) (.int .i64 0) (.string ⟨#[]⟩)), .val (.int .i64 0)]
                  [some 156, some 157, some 158, some 159, some 160, some 161, some 162, some 163, some 164, none, some 5]
                  (fun w' => Below w.heap.size w w' ∧ RvAt w' w.heap.size ∧ VaAt w' g o a ∧ VaAt w' g (o + 4) b) (fun w1 w2 => CelV w1 w.heap.size (.int .i64 1) (.int .i64 m) (.int .i64 0) (.string ⟨#[]⟩) → CelV w2 w.heap.size (.int .i64 1) (.int .i64 m) (.int .i64 0) (.string ⟨#[]⟩)) rfl (by kernel_rfl) (by kernel_rfl) (by kernel_rfl) (by kernel_rfl) ?_ ?_ ?_ ?_
                · (intro y hy v w1 w2 hs hv; simp only [List.mem_cons, List.not_mem_nil, or_false] at hy; rcases hy with rfl | rfl | rfl | rfl | rfl | rfl | rfl | rfl | rfl | rfl | rfl; all_goals first | exact hv | exact hs hv)
                · exact ⟨HS6.out.below.drew, RvAt.of HRD.out, ⟨HA6.out.kind, HA6.out.num, HA6.out.den, HA6.out.str⟩, ⟨HB6.out.kind, HB6.out.num, HB6.out.den, HB6.out.str⟩⟩
                · intro i9 op9 ho
                  have hi : i9 < 11 := (Array.getElem?_eq_some_iff.1 ho).1
                  match i9, hi with
                  | 0, _ =>
                    obtain rfl := Option.some.inj ho
                    intro a9 wx hBx hev haf
                    rw [if_pos (wanted_none rfl)]
                    have f1 : (a9.tmps[1]?).getD undef = (.slice (some ⟨g, o, none⟩) j cap) := hev 1 (by kernel_rfl)
                    clear haf hev
                    go_simp
                    exact ⟨rfl, fun h => h, hBx⟩
                  | 1, _ =>
                    obtain rfl := Option.some.inj ho
                    intro a9 wx hBx hev haf
                    rw [if_pos (wanted_none rfl)]
                    have f156 : (a9.tmps[156]?).getD undef = (.slice (some ⟨g, o, none⟩) j cap) := haf 0 _ rfl rfl 156 rfl
                    clear haf hev
                    go_simp
                    exact ⟨rfl, fun h => h, hBx⟩
                  | 2, _ =>
                    obtain rfl := Option.some.inj ho
                    intro a9 wx hBx hev haf
                    rw [if_pos (wanted_none rfl)]
                    have f157 : (a9.tmps[157]?).getD undef = (.pointer (some ⟨g, o, none⟩)) := haf 0 _ rfl rfl 157 rfl
                    clear haf hev
                    obtain ⟨k0, k1, k2, k3⟩ := hBx.2.2.1
                    go_simp
                    exact ⟨rfl, fun h => h, hBx⟩
                  | 3, _ =>
                    obtain rfl := Option.some.inj ho
                    intro a9 wx hBx hev haf
                    rw [if_pos (wanted_none rfl)]
                    have f1 : (a9.tmps[1]?).getD undef = (.slice (some ⟨g, o, none⟩) j cap) := hev 1 (by kernel_rfl)
                    clear haf hev
                    go_simp
                    exact ⟨rfl, fun h => h, hBx⟩
                  | 4, _ =>
                    obtain rfl := Option.some.inj ho
                    intro a9 wx hBx hev haf
                    rw [if_pos (wanted_none rfl)]
                    have f159 : (a9.tmps[159]?).getD undef = (.slice (some ⟨g, o, none⟩) j cap) := haf 0 _ rfl rfl 159 rfl
                    clear haf hev
                    go_simp
                    exact ⟨rfl, fun h => h, hBx⟩
                  | 5, _ =>
                    obtain rfl := Option.some.inj ho
                    intro a9 wx hBx hev haf
                    rw [if_pos (wanted_none rfl)]
                    have f160 : (a9.tmps[160]?).getD undef = (.pointer (some ⟨g, o + 4, none⟩)) := haf 0 _ rfl rfl 160 rfl
                    clear haf hev
                    obtain ⟨k0, k1, k2, k3⟩ := hBx.2.2.2
                    go_simp
                    exact ⟨rfl, fun h => h, hBx⟩
                  | 6, _ =>
                    obtain rfl := Option.some.inj ho
                    intro a9 wx hBx hev haf
                    rw [if_pos (wanted_none rfl)]
                    have f158 : (a9.tmps[158]?).getD undef = (.agg #[.int .i64 a.kind, .int .i64 a.num, .int .i64 a.den, .string ⟨a.str.toArray⟩]) := haf 0 _ rfl rfl 158 rfl
                    have f161 : (a9.tmps[161]?).getD undef = (.agg #[.int .i64 b.kind, .int .i64 b.num, .int .i64 b.den, .string ⟨b.str.toArray⟩]) := haf 1 _ rfl rfl 161 rfl
                    clear haf hev
                    go_simp
                    exact (COR.out _).mono fun e w' ⟨he, hb⟩ => ⟨_, he, rfl, fun h => h.later hb, below_keep hBx.1 hb, hBx.2.1.later hb, hBx.2.2.1.later' hb, hBx.2.2.2.later' hb⟩
                  | 7, _ =>
                    obtain rfl := Option.some.inj ho
                    intro a9 wx hBx hev haf
                    rw [if_pos (wanted_none rfl)]
                    have f162 : (a9.tmps[162]?).getD undef = (.int .i64 z) := haf 0 _ rfl rfl 162 rfl
                    clear haf hev
                    go_simp
                    exact ⟨rfl, fun h => h, hBx⟩
                  | 8, _ =>
                    obtain rfl := Option.some.inj ho
                    intro a9 wx hBx hev haf
                    rw [if_pos (wanted_none rfl)]
                    have f163 : (a9.tmps[163]?).getD undef = (.bool d) := haf 0 _ rfl rfl 163 rfl
                    clear haf hev
                    go_simp
                    exact (CN.out _).mono fun e w' ⟨he, hb⟩ => ⟨_, he, rfl, fun h => h.later hb, below_keep hBx.1 hb, hBx.2.1.later hb, hBx.2.2.1.later' hb, hBx.2.2.2.later' hb⟩
                  | 9, _ =>
                    obtain rfl := Option.some.inj ho
                    intro a9 wx hBx hev haf
                    rw [if_pos (wanted_none rfl)]
                    have f4 : (a9.tmps[4]?).getD undef = (.pointer (some ⟨w.heap.size, 0, none⟩)) := hev 4 (by kernel_rfl)
                    have f164 : (a9.tmps[164]?).getD undef = (.agg #[.int .i64 1, .int .i64 m, .int .i64 0, .string ⟨#[]⟩]) := haf 0 _ rfl rfl 164 rfl
                    clear haf hev
                    obtain ⟨⟨v0, k0⟩, ⟨v1, k1⟩, ⟨v2, k2⟩, ⟨v3, k3⟩, q0, q1, q2, q3⟩ := hBx.2.1
                    go_simp
                    exact ⟨(hBx.2.1.cells _ _ _ _).1, fun _ => (hBx.2.1.cells _ _ _ _).1, below_set4' hBx.1 (Nat.le_refl _), (hBx.2.1.cells _ _ _ _).2, hBx.2.2.1.setFar HG9.out _ _ _ _, hBx.2.2.2.setFar HG9.out _ _ _ _⟩
                  | 10, _ =>
                    obtain rfl := Option.some.inj ho
                    intro a9 wx hBx hev haf
                    rw [if_pos (wanted_none rfl)]
                    clear haf hev
                    go_simp
                    exact ⟨rfl, fun h => h, hBx⟩
                · intro vals wx hBx hG
                  have g0 : vals 0 = (.slice (some ⟨g, o, none⟩) j cap) := hG 0 (by decide)
                  have g1 : vals 1 = (.pointer (some ⟨g, o, none⟩)) := hG 1 (by decide)
                  have g2 : vals 2 = (.agg #[.int .i64 a.kind, .int .i64 a.num, .int .i64 a.den, .string ⟨a.str.toArray⟩]) := hG 2 (by decide)
                  have g3 : vals 3 = (.slice (some ⟨g, o, none⟩) j cap) := hG 3 (by decide)
                  have g4 : vals 4 = (.pointer (some ⟨g, o + 4, none⟩)) := hG 4 (by decide)
                  have g5 : vals 5 = (.agg #[.int .i64 b.kind, .int .i64 b.num, .int .i64 b.den, .string ⟨b.str.toArray⟩]) := hG 5 (by decide)
                  have g6 : vals 6 = (.int .i64 z) := hG 6 (by decide)
                  have g7 : vals 7 = (.bool d) := hG 7 (by decide)
                  have g8 : vals 8 = (.agg #[.int .i64 1, .int .i64 m, .int .i64 0, .string ⟨#[]⟩]) := hG 8 (by decide)
                  have g9 := hG 9 (by decide)
                  have g10 : vals 10 = (.int .i64 0) := hG 10 (by decide)
                  clear hG
                  simp only [putDs, Act.put, Nat.zero_add, Nat.reduceAdd, List.setIfInBounds_toArray, List.set_cons_succ, List.set_cons_zero, g0, g1, g2, g3, g4, g5, g6, g7, g8, g10]
                  clear g0 g1 g2 g3 g4 g5 g6 g7 g8 g10
                  obtain ⟨r0, r1, r2, r3⟩ := g9
                  go_wp2
                  refine bodyPost_ret (by simp [results, Tryz.results37, go_sem, r0, r1, r2, r3]; try rfl) rfl ?_
                  exact ⟨by rw [HE4.out]; rfl, hBx.1⟩
              · skip
                have f4 : (op == (4 : Int)) = false := by rw [beq_eq_false_iff_ne]; omega
                have f5 : (op == (5 : Int)) = false := by rw [beq_eq_false_iff_ne]; omega
                have f6 : (op == (6 : Int)) = false := by rw [beq_eq_false_iff_ne]; omega
                have f19 : (op == (19 : Int)) = false := by rw [beq_eq_false_iff_ne]; omega
                have f20 : (op == (20 : Int)) = false := by rw [beq_eq_false_iff_ne]; omega
                have f13 : (op == (13 : Int)) = false := by rw [beq_eq_false_iff_ne]; omega
                have f14 : (op == (14 : Int)) = false := by rw [beq_eq_false_iff_ne]; omega
                have f15 : (op == (15 : Int)) = false := by rw [beq_eq_false_iff_ne]; omega
                have f16 : (op == (16 : Int)) = false := by rw [beq_eq_false_iff_ne]; omega
                have f17 : (op == (17 : Int)) = false := by rw [beq_eq_false_iff_ne]; omega
                have f18 : (op == (18 : Int)) = false := by rw [beq_eq_false_iff_ne]; omega
                have HCL := Lib.hid hcl
                clear hcl
                go_wp2_with fail
                refine (NA.out _).mono ?_
                rintro e w5 ⟨b5, a1, n1, c1, a2, n2, c2, f5, rfl, hq5, hb5⟩
                obtain ⟨W6, hW6⟩ : ∃ W6, W6 = w5.alloc (.cells #[.bool b5, .slice a1 n1 c1, .slice a2 n2 c2] 28) := ⟨_, rfl⟩
                have HS6 : Hid (RSt w W6 g o j cap l) := by rw [hW6]; exact (HS4.out.later hb5).later (below_alloc _ _)
                have HQ6 : Hid (a.kind = 2 → Q9 W6 (.agg #[.bool b5, .slice a1 n1 c1, .slice a2 n2 c2]) (qOf a)) := fun h => by rw [hW6]; exact (hq5 h).later (below_alloc _ _)
                have K6 : Hid (W6.cell? ⟨w5.heap.size, 0, none⟩ = some (.bool b5) ∧ W6.cell? ⟨w5.heap.size, 1, none⟩ = some (.slice a1 n1 c1) ∧ W6.cell? ⟨w5.heap.size, 2, none⟩ = some (.slice a2 n2 c2) ∧ w5.heap.size < W6.heap.size) := by
                  rw [hW6]
                  refine ⟨?_, ?_, ?_, by simp⟩ <;> (rw [World.cell?_alloc_at _ _ _ _ rfl]; rfl)
                clear hb5 hq5 NA x0 x1 x2 x3
                obtain ⟨k0, k1, k2, -⟩ := K6.out
                have h1n : 1 < j := by
                  have h2 := HON.out
                  unfold operN at h2
                  rw [if_pos HOP.out] at h2
                  rcases (by have := HCL.out; omega : op = 9 ∨ op = 10 ∨ op = 11 ∨ op = 12) with e | e | e | e <;> (rw [e] at h2; have h3 : (2 : Nat) = j := h2; omega)
                obtain ⟨b, hb⟩ : ∃ b, l[1]? = some b := ⟨_, List.getElem?_eq_getElem (by rw [← HL.out]; exact h1n)⟩
                have NB := Lib.hid (fun w1 => rnumber_any b (all_at hall'.out hb) w1)
                have AR2 := Lib.hid (fun w1 x y hx hy => ARI.out b w1 hb x y hx hy HCL.out)
                obtain ⟨x0, x1, x2, x3⟩ := HS6.out.elem 1 b hb
                rw [Nat.one_mul] at x0 x1 x2 x3
                clear hb ARI
                rw [hW6] at x0 x1 x2 x3
                go_wp2_with fail
                rw [← hW6]
                rw [← hW6] at x0 x1 x2 x3
                clear hW6
                refine (NB.out _).mono ?_
                rintro e w7 ⟨b7, a3, n3, c3, a4, n4, c4, f7, rfl, hq7, hb7⟩
                have hlt7 : w5.heap.size < w7.heap.size := Nat.lt_of_lt_of_le K6.out.2.2.2 hb7.size
                have hne7 : w5.heap.size ≠ w7.heap.size := by omega
                have hS7 := HS6.out.later hb7
                have HS8 := Lib.hid (hS7.later (below_alloc w7 (.cells #[.bool b7, .slice a3 n3 c3, .slice a4 n4 c4] 28)))
                have C3 := Lib.hid (AR2.out (w7.alloc (.cells #[.bool b7, .slice a3 n3 c3, .slice a4 n4 c4] 28)) (.agg #[.bool b5, .slice a1 n1 c1, .slice a2 n2 c2]) (.agg #[.bool b7, .slice a3 n3 c3, .slice a4 n4 c4]) (fun h => ((HQ6.out h).later hb7).later (below_alloc _ _)) (fun h => (hq7 h).later (below_alloc _ _)))
                have m0 := (hb7.cell (p := ⟨w5.heap.size, 0, none⟩) K6.out.2.2.2).trans k0
                have m1 := (hb7.cell (p := ⟨w5.heap.size, 1, none⟩) K6.out.2.2.2).trans k1
                have m2 := (hb7.cell (p := ⟨w5.heap.size, 2, none⟩) K6.out.2.2.2).trans k2
                obtain ⟨⟨y0, y1, y2, y3⟩, hy9⟩ : ∃ y, y = tailE op l := ⟨_, rfl⟩
                rw [← hy9] at C3 HE3
                clear hb7 hq7 NB AR2 k0 k1 k2 x0 x1 x2 x3 hS7 hy9 HQ6
                go_wp2_with fail
                refine C3.out.mono ?_
                rintro e w8 ⟨rfl, hb8⟩
                have HS9 := Lib.hid (HS8.out.later hb8)
                clear hb8 C3 m0 m1 m2
                obtain ⟨⟨r0, r1, r2, r3⟩, f0, f1, f2, f3⟩ := HS9.out.res
                go_wp2
                refine bodyPost_ret (by simp [results, Tryz.results37, go_sem, r0, r1, r2, r3]; try rfl) rfl ?_
                exact ⟨by rw [HE3.out]; rfl, below_set4 HS9.out.below⟩

theorem rdo_any (op : Int) (l : List Va) (v : Value) (w : World) (hv : VaS w v l) (hs : ∀ x ∈ l, x.str.length ≤ 9223372036854775807) :
    Calls Tryz.prog 37 #[.int .i64 op, v] w (RetV (doR (doE op l)) w) := by
  cases h : knownOp op l.length with
  | false =>
    obtain ⟨a, cap, rfl, -⟩ := hv.shape
    have e : doE op l = (zeroV, 2) := by unfold doE; rw [if_pos h]
    rw [e]
    refine rdo_bad op a _ cap w ?_
    by_cases h1 : 4 ≤ op ∧ op ≤ 22
    · have h0 := operN_pos h1
      right
      refine ⟨h0, fun h2 => ?_⟩
      rw [operN_eq op _ (by omega), decide_eq_false_iff_not] at h
      omega
    · left; unfold operN; rw [if_neg h1]
  | true =>
    rcases hv with ⟨a, cap, rfl, rfl⟩ | hv
    · exfalso
      unfold knownOp at h
      rw [Bool.and_eq_true, decide_eq_true_eq, decide_eq_true_eq] at h
      have h0 := operN_pos h.1
      have h2 := h.2
      unfold operN at h0
      rw [if_pos h.1] at h0
      simp at h2; omega
    · exact rdo_good op l v w hv h hs
end Go.Proofs.YtemhidlaaommaaaGreatDoor
