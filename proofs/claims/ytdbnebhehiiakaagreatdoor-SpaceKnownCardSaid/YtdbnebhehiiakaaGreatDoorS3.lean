/- Lemmas and contracts, each under its own condition: space.Name: the contract. The names that were met, kept in a map that the call has made. space: last, dims, shape, Schema: contracts. -/
import Derived.Lib.ConvBytes
import Derived.Outline
import Derived.Maps.OwnOps
import Derived.Maps.OwnSet
import Derived.Maps.Views
import Derived.Carry
import Derived.Test.YtdbnebhehiiakaaGreatDoorN1
import Derived.Test.YtdbnebhehiiakaaGreatDoorS2
namespace Go.Proofs.YtdbnebhehiiakaaGreatDoor
open Go.RowKit
def RetV' (v : Value) (w : World) (e : Ending) (w' : World) : Prop := e = .returned v ∧ Below w.heap.size w w'
theorem name_long (S : ByteArray) (w : World) (h1 : S.size ≤ 9223372036854775807) (h : S.size < 1 ∨ 12 < S.size) :
    Calls Tryz.prog 108 #[.string S] w fun e w' => e = .returned (.bool false) ∧ w' = w := by
  rcases h with h | h
  · have h2 : ((S.size : Int) < 1) := by omega
    clear h
    go_enter Tryz.func108, Tryz.ntmps108
    go_wp2
    go_ret
    exact ⟨rfl, rfl⟩
  · have h2 : ¬ ((S.size : Int) < 1) := by omega
    have h3 : ((12 : Int) < S.size) := by omega
    clear h
    go_enter Tryz.func108, Tryz.ntmps108
    go_wp2
    go_ret
    exact ⟨rfl, rfl⟩
set_option maxHeartbeats 1600000 in
set_option maxRecDepth 100000 in
theorem name_core (l : List UInt8) (S : ByteArray) (D : Nat → Int) (cap g : Nat) (w w1 : World) (h1 : S.size = l.length) (h2 : 1 ≤ l.length) (h3 : l.length ≤ 12) (hc : l.length ≤ cap) (hc2 : cap ≤ 9223372036854775807)
    (hD : ∀ i c, l[i]? = some c → D i = (c.toNat : Int)) (hconv : (convert 9 70 (.string S)).run Tryz.prog w = .ok (.slice (some ⟨g, 0, none⟩) l.length cap) w1)
    (hcell : ∀ i, i < l.length → w1.cell? ⟨g, i, none⟩ = some (.int .u8 (D i))) (hb : Below w.heap.size w w1) :
    Calls Tryz.prog 108 #[.string S] w (RetV' (.bool (nameL true l)) w) := by
  have h4 : ¬ ((S.size : Int) < 1) := by omega
  have h5 : ¬ ((12 : Int) < S.size) := by omega
  have HC := Lib.hid hcell
  have HB := Lib.hid hb
  have HD := Lib.hid hD
  clear hcell hb hD h1
  go_enter Tryz.func108, Tryz.ntmps108
  go_wp2
  go_loopw [17] (fun iv wr => ∃ i : Nat, i ≤ l.length ∧ iv = .int .i64 (i : Nat) ∧ Hid (nameL (decide (i = 0)) (l.drop i) = nameL true l) ∧ wr = w1) (fun iv _ => l.length - (intOf iv).toNat)
  case atStart => exact ⟨0, Nat.zero_le _, rfl, rfl, rfl⟩
  case round =>
    obtain ⟨i, hi, rfl, HN, rfl⟩ := hrel
    by_cases hlt : i < l.length
    · have hcx := HC.out i hlt
      obtain ⟨c, hcg⟩ : ∃ c, l[i]? = some c := ⟨_, List.getElem?_eq_getElem hlt⟩
      have hdr : l.drop i = c :: l.drop (i + 1) := by
        rw [List.drop_eq_getElem_cons hlt]
        congr 1
        rw [List.getElem?_eq_getElem hlt] at hcg
        exact Option.some.inj hcg
      have hn := HN.out
      rw [hdr, nameL] at hn
      have hDi := HD.out i c hcg
      have hc0 : 0 ≤ D i := by omega
      have hc9 : D i < 256 := by rw [hDi]; have := c.toNat_lt; omega
      have hS : smallB c = decide (97 ≤ D i ∧ D i ≤ 122) := by
        unfold smallB
        rw [hDi, Bool.decide_and]
        congr 1 <;> rw [decide_eq_decide] <;> omega
      have hF : furtherB c = decide (97 ≤ D i ∧ D i ≤ 122 ∨ 48 ≤ D i ∧ D i ≤ 57 ∨ D i = 95) := by
        unfold furtherB
        rw [hS, hDi]
        rw [Bool.eq_iff_iff]
        simp only [Bool.or_eq_true, Bool.and_eq_true, decide_eq_true_eq]
        omega
      have stopF : Hid ((¬ (97 ≤ D i ∧ D i ≤ 122) ∧ (i = 0 ∨ ¬ (48 ≤ D i ∧ D i ≤ 57 ∨ D i = 95))) → nameL true l = false) := fun h => by
        rw [← hn, hS, hF, if_pos]
        exact ⟨decide_eq_false h.1, h.2.imp (fun h => decide_eq_true h) (fun h2 => decide_eq_false (fun h3 => h3.elim h.1 h2))⟩
      have goF : Hid (¬ (¬ (97 ≤ D i ∧ D i ≤ 122) ∧ (i = 0 ∨ ¬ (48 ≤ D i ∧ D i ≤ 57 ∨ D i = 95))) → nameL (decide (i + 1 = 0)) (l.drop (i + 1)) = nameL true l) := fun h => by
        rw [← hn, hS, hF, if_neg, show decide (i + 1 = 0) = false from by simp]
        rintro ⟨h1, h2⟩
        refine h ⟨of_decide_eq_false h1, h2.imp (fun h => of_decide_eq_true h) (fun h3 h4 => of_decide_eq_false h3 (.inr h4))⟩
      clear hDi hn hdr hcg hS hF HN HD
      have h0 : i = 0 ∨ (0 < i ∧ ((i : Int) == 0) = false) := by
        rcases Nat.eq_zero_or_pos i with h | h
        · exact .inl h
        · exact .inr ⟨h, by rw [beq_eq_false_iff_ne]; omega⟩
      generalize D i = x at hcx stopF goF hc0 hc9
      have hcase : x < 48 ∨ (48 ≤ x ∧ x ≤ 57) ∨ (57 < x ∧ x < 95) ∨ x = 95 ∨ x = 96 ∨ (97 ≤ x ∧ x ≤ 122) ∨ 122 < x := by omega
      rcases h0 with rfl | ⟨hp, h0⟩
      all_goals
        rcases hcase with h | ⟨h, h'⟩ | ⟨h, h'⟩ | rfl | rfl | ⟨h, h'⟩ | h
        all_goals
          first
            | have a97 : 97 ≤ x := by omega
            | have a97 : x < 97 := by omega
            | skip
          first
            | have a122 : decide (x ≤ 122) = true := by rw [decide_eq_true_eq]; omega
            | have a122 : decide (x ≤ 122) = false := by rw [decide_eq_false_iff_not]; omega
            | skip
          first
            | have a95 : (x != 95) = true := by rw [bne_iff_ne]; omega
            | skip
          first
            | have a95' : ¬ x = 95 := by omega
            | skip
          first
            | have a48 : x < 48 := by omega
            | have a48 : 48 ≤ x := by omega
            | skip
          first
            | have a57 : x ≤ 57 := by omega
            | have a57 : 57 < x := by omega
            | skip
          go_wp2
          first
            | (go_ret
               exact ⟨ret_bool (stopF.out (by omega)).symm, HB.out⟩)
            | exact ⟨⟨_, by omega, by go_num, goF.out (by omega), trivial⟩, by show l.length - _ < l.length - _; simp [intOf]; omega⟩
            | exact ⟨⟨_, by omega, rfl, goF.out (by omega), trivial⟩, by show l.length - _ < l.length - _; simp [intOf]; omega⟩
            | (go_ret
               exact ⟨ret_bool (stopF.out ⟨by omega, .inl trivial⟩).symm, HB.out⟩)
    · obtain rfl : i = l.length := by omega
      go_wp2
      go_ret
      refine ⟨?_, HB.out⟩
      have := HN.out
      rw [List.drop_length] at this
      rw [← this]
      rfl
abbrev strV (l : List UInt8) : Value := .string ⟨l.toArray⟩
theorem name_any (l : List UInt8) (w : World) (hl : l.length ≤ 9223372036854775807) : Calls Tryz.prog 108 #[strV l] w (RetV' (.bool (nameB l)) w) := by
  have hsz : (⟨l.toArray⟩ : ByteArray).size = l.length := rfl
  unfold nameB
  by_cases h1 : l.length < 1
  · rw [show decide (1 ≤ l.length) = false from decide_eq_false (by omega)]
    exact (name_long ⟨l.toArray⟩ w (by rw [hsz]; exact hl) (.inl (by rw [hsz]; exact h1))).mono fun e w' ⟨he, hw⟩ => ⟨he, by rw [hw]; exact Below.refl _ _⟩
  · by_cases h2 : 12 < l.length
    · rw [show decide (l.length ≤ 12) = false from decide_eq_false (by omega), Bool.and_false, Bool.false_and]
      exact (name_long ⟨l.toArray⟩ w (by rw [hsz]; exact hl) (.inr (by rw [hsz]; exact h2))).mono fun e w' ⟨he, hw⟩ => ⟨he, by rw [hw]; exact Below.refl _ _⟩
    · rw [show decide (1 ≤ l.length) = true from decide_eq_true (by omega), show decide (l.length ≤ 12) = true from decide_eq_true (by omega), Bool.true_and, Bool.true_and]
      have hu := Tryz.underlying9
      have hrun := Lib.run_convert_string_bytes (P := Tryz.prog) w 9 70 5 ⟨l.toArray⟩ Tryz.underlying9 Tryz.underlying70 Tryz.underlying5
      rw [hsz] at hrun
      refine name_core l ⟨l.toArray⟩ (fun i => ((l.getD i 0).toNat : Int)) (grownCap w l.length 0 5) w.heap.size w (Lib.bytesWorld w 5 ⟨l.toArray⟩) hsz (by omega) (by omega) (grownCap_ge _ _ _ _) (grownCap_le_maxLen _ _ _ _ hl) ?_ hrun ?_ ?_
      · intro i c hc
        rw [List.getD_eq_getElem?_getD, hc]
        rfl
      · intro i hi
        have := Lib.bytesWorld_cell w 5 ⟨l.toArray⟩ i (by rw [hsz]; exact hi)
        rw [this]
      · exact ⟨rfl, rfl, rfl, by rw [Lib.bytesWorld_size]; omega, fun k hk => Lib.bytesWorld_at_old w _ _ k hk⟩
end Go.Proofs.YtdbnebhehiiakaaGreatDoor
namespace Go.Proofs.YtdbnebhehiiakaaGreatDoor
open Go.RowKit Go.Maps Go.WideMaps
theorem size_of_list (l : List UInt8) : (⟨l.toArray⟩ : ByteArray).size = l.length := rfl
theorem plainElem_bool_inv {P : Program} {e : TypeId} (he : P.underlying e = some .bool) {v : Value} {x : Bool} {ps : List MemPlace} (h : plainElem (H := Unit) P e v = some (.lit (.bool x), ps)) : v = .bool x := by
  unfold plainElem at h
  rw [he] at h
  cases v <;> simp at h
  exact congrArg Value.bool h.1
def MetS (w : World) (b : Nat) (l : List (List UInt8)) : Prop :=
  ∃ D : DataW Unit, w.ownsMap Tryz.prog 9 (plainElem Tryz.prog 4) b l.length D ∧ IsMap D ∧ ∀ s : List UInt8, D.atKey (.string s) (.lit (.bool false)) = .lit (.bool (decide (s ∈ l)))
theorem MetS.made (w : World) : MetS (w.alloc (.map #[] 0)) w.heap.size [] :=
  ⟨.map [], World.ownsMap_made _ _ _ _, isMap_empty, fun s => by simp [DataW.atKey]⟩
theorem MetS.lt {w : World} {b : Nat} {l : List (List UInt8)} (h : MetS w b l) : b < w.heap.size := by
  obtain ⟨D, h, -⟩ := h
  exact h.lt
theorem MetS.later {w w' : World} {b n : Nat} {l : List (List UInt8)} (h : MetS w b l) (hb : Below n w w') (hn : b < n) : MetS w' b l := by
  obtain ⟨D, ⟨es, clock, h1, h2⟩, h3⟩ := h
  exact ⟨D, ⟨es, clock, (hb.block b hn).trans h1, h2⟩, h3⟩
theorem MetS.look {w : World} {b : Nat} {l : List (List UInt8)} (h : MetS w b l) (s : List UInt8) (hs : s.length ≤ maxLen) :
    (Instr.lookup 150 (.map (some b)) (.string ⟨s.toArray⟩) false).run Tryz.prog w = .ok (.bool (decide (s ∈ l))) w := by
  obtain ⟨D, h1, -, h3⟩ := h
  have hz : (zeroValue 4).run Tryz.prog w = .ok (.bool false) w := by
    simp [go_sem]
  obtain ⟨v, ps, hrun, hv⟩ := h1.lookup (string_keyed Tryz.underlying9) Tryz.underlying150 hz (plainElem_bool Tryz.underlying4 false)
    (keyOf_string_mk Tryz.underlying9 (s := ⟨s.toArray⟩) (by rw [size_of_list]; exact hs))
  rw [show (⟨s.toArray⟩ : ByteArray).data.toList = s from by simp, h3 s] at hv
  rw [hrun, plainElem_bool_inv Tryz.underlying4 hv]
theorem MetS.add {w : World} {b : Nat} {l : List (List UInt8)} (h : MetS w b l) (s : List UInt8) (hs : s.length ≤ maxLen) (hl : l.length < 1000) :
    ∃ w', (Instr.mapUpdate 150 (.map (some b)) (.string ⟨s.toArray⟩) (.bool true)).run Tryz.prog w = .ok () w' ∧ MetS w' b (l ++ [s]) ∧ w.grownBy w' (some b) := by
  obtain ⟨D, h1, h2, h3⟩ := h
  obtain ⟨w', hrun, r1, r2⟩ := h1.update (string_keyed Tryz.underlying9) Tryz.underlying150 (by unfold maxLen; omega)
    (keyOf_string_mk Tryz.underlying9 (s := ⟨s.toArray⟩) (by rw [size_of_list]; exact hs)) (plainElem_bool (H := Unit) Tryz.underlying4 true)
  rw [show (⟨s.toArray⟩ : ByteArray).data.toList = s from by simp] at r1
  refine ⟨w', hrun, ⟨_, by simpa using r1, h2.put _ _, fun t => ?_⟩, r2⟩
  by_cases e : t = s
  · subst e
    rw [atKey_put_same h2 (by trivial)]
    simp
  · rw [atKey_put_other (fun e' => e (by cases e'; rfl)), h3 t]
    simp [e]
end Go.Proofs.YtdbnebhehiiakaaGreatDoor
namespace Go.Proofs.YtdbnebhehiiakaaGreatDoor
open Go.RowKit
abbrev dimV (d : DimT) : Value := .agg #[strV d.name, .int .i64 d.lo, .int .i64 d.hi]
theorem last_any (d : DimT) (w : World) : Calls Tryz.prog 66 #[dimV d] w (RetV' (.int .i64 d.last) w) := by
  obtain ⟨n, lo, hi⟩ := d
  have e : DimT.last ⟨n, lo, hi⟩ = min hi 1073741824 := by
    unfold DimT.last
    simp only
    split <;> omega
  rw [e]
  clear e
  go_enter Tryz.func66, Tryz.ntmps66
  go_wp2
  go_ret
  exact ⟨rfl, below_alloc _ _⟩
theorem DimR.local : Local DimR := fun _ _ _ _ _ h hb => ⟨(World.cell?_of_block hb).trans h.name, (World.cell?_of_block hb).trans h.lo, (World.cell?_of_block hb).trans h.hi⟩
theorem AttrR.local : Local AttrR := fun _ _ _ _ _ h hb => ⟨(World.cell?_of_block hb).trans h.name, (World.cell?_of_block hb).trans h.ty⟩
theorem Ls.grown {α : Type} {k : Nat} {Rd : World → Nat → Nat → α → Prop} (hR : Local Rd) (hC : ∀ w g o x, Rd w g o x → ∃ v, w.cell? ⟨g, o, none⟩ = some v) {w w' : World} {v : Value} {l : List α} {b : Nat} (h : Ls k Rd w v l)
    (hm : ∃ o, w.heap[b]? = some o ∧ o.isCells = false) (hg : w.grownBy w' (some b)) : Ls k Rd w' v l := by
  obtain ⟨a, cap, rfl, h1, h2, h3⟩ := h
  refine ⟨a, cap, rfl, h1, h2, fun h0 => ?_⟩
  obtain ⟨g, o, rfl, hx⟩ := h3 h0
  refine ⟨g, o, rfl, fun i x hi => hR _ _ _ _ _ (hx i x hi) ?_⟩
  obtain ⟨u, hu⟩ := hC _ _ _ _ (hx i x hi)
  obtain ⟨o', ho', hc'⟩ := cells_of_cell hu
  refine hg.block g (World.block_lt_of_cell? _ _ hu) fun e => ?_
  injection e with e
  subst e
  obtain ⟨o2, h4, h5⟩ := hm
  rw [h4] at ho'
  cases ho'
  rw [h5] at hc'
  cases hc'
theorem MetS.map {w : World} {b : Nat} {l : List (List UInt8)} (h : MetS w b l) : ∃ o, w.heap[b]? = some o ∧ o.isCells = false := by
  obtain ⟨D, ⟨es, clock, h1, h2⟩, h3⟩ := h
  exact ⟨_, h1, rfl⟩
theorem grown_of_below {w w' : World} (h : Below w.heap.size w w') (row : Option Nat) : w.grownBy w' row := ⟨h.os, h.tape, h.output, h.size, fun k hk _ => h.block k hk⟩
theorem below_of_grown {w W w' : World} {b : Nat} (h : Below w.heap.size w W) (hb : w.heap.size ≤ b) (hg : W.grownBy w' (some b)) : Below w.heap.size w w' :=
  h.grown hg h.size (fun k e => by cases e; exact hb)
theorem Dims.grown {w w' : World} {v : Value} {l : List DimT} {b : Nat} (h : Dims w v l) (hm : ∃ o, w.heap[b]? = some o ∧ o.isCells = false) (hg : w.grownBy w' (some b)) : Dims w' v l :=
  Ls.grown DimR.local (fun _ _ _ _ h => ⟨_, h.name⟩) h hm hg
theorem Attrs.grown {w w' : World} {v : Value} {l : List AttrT} {b : Nat} (h : Attrs w v l) (hm : ∃ o, w.heap[b]? = some o ∧ o.isCells = false) (hg : w.grownBy w' (some b)) : Attrs w' v l :=
  Ls.grown AttrR.local (fun _ _ _ _ h => ⟨_, h.name⟩) h hm hg
def RetDims (met : List (List UInt8)) (d : List DimT) (b : Nat) (r : Int) (w : World) (e : Ending) (w' : World) : Prop := e = .returned (.int .i64 r) ∧ w.grownBy w' (some b) ∧ (r = 0 → MetS w' b (met ++ names d))
theorem dims_long (d : List DimT) (v m : Value) (b : Nat) (met : List (List UInt8)) (w : World) (hd : Dims w v d) (h : d.length < 1 ∨ 4 < d.length) :
    Calls Tryz.prog 95 #[v, m] w (RetDims met d b 13 w) := by
  have hlen := hd.len
  obtain ⟨a, cap, rfl, h1, h2⟩ := hd.shape
  clear hd
  rcases h with h | h
  · have h' : ((d.length : Int) < 1) := by omega
    clear h
    go_enter Tryz.func95, Tryz.ntmps95
    go_wp2
    go_ret
    exact ⟨rfl, grown_of_below (Below.refl _ _) _, fun h => by cases h⟩
  · have h' : ¬ ((d.length : Int) < 1) := by omega
    have h'' : (4 : Int) < (d.length : Int) := by omega
    clear h
    go_enter Tryz.func95, Tryz.ntmps95
    go_wp2
    go_ret
    exact ⟨rfl, grown_of_below (Below.refl _ _) _, fun h => by cases h⟩
theorem drop_cons {α : Type} {l : List α} {i : Nat} {x : α} (h : l[i]? = some x) : l.drop i = x :: l.drop (i + 1) := by
  have hlt := (List.getElem?_eq_some_iff.1 h).1
  rw [List.drop_eq_getElem_cons hlt, (List.getElem?_eq_some_iff.1 h).2]
theorem take_snoc' {α : Type} {l : List α} {i : Nat} {x : α} (h : l[i]? = some x) : l.take (i + 1) = l.take i ++ [x] := by
  have hlt := (List.getElem?_eq_some_iff.1 h).1
  rw [List.take_succ_eq_append_getElem hlt, (List.getElem?_eq_some_iff.1 h).2]
theorem names_snoc {d : List DimT} {i : Nat} {x : DimT} (h : d[i]? = some x) : names (d.take (i + 1)) = names (d.take i) ++ [x.name] := by
  rw [take_snoc' h]; simp [names]
set_option maxHeartbeats 3200000 in
set_option maxRecDepth 100000 in
theorem dims_core (d : List DimT) (v : Value) (b : Nat) (met : List (List UInt8)) (w : World) (hd : Dims w v d) (hm : MetS w b met) (h1 : 1 ≤ d.length) (h4 : d.length ≤ 4) (hml : met.length ≤ 100) (hs : ∀ x ∈ d, x.name.length ≤ 9223372036854775807) :
    Calls Tryz.prog 95 #[v, .map (some b)] w (RetDims met d b (dimsL met d) w) := by
  have h5 : ¬ ((d.length : Int) < 1) := by omega
  have h6 : ¬ ((4 : Int) < d.length) := by omega
  have HD := Lib.hid hd
  have HM := Lib.hid hm
  have HS := Lib.hid hs
  obtain ⟨a, cap, rfl, c1, c2⟩ := hd.shape
  clear hd hm hs
  go_enter Tryz.func95, Tryz.ntmps95
  go_wp2
  go_loopw [17] (fun iv wr => ∃ i : Nat, i ≤ d.length ∧ iv = .int .i64 (i : Nat) ∧ Hid (dimsL (met ++ names (d.take i)) (d.drop i) = dimsL met d) ∧ MetS wr b (met ++ names (d.take i)) ∧ w.grownBy wr (some b)) (fun iv _ => d.length - (intOf iv).toNat)
  case atStart => exact ⟨0, Nat.zero_le _, rfl, (by show _ = _; simp [names]), (by simpa [names] using HM.out), grown_of_below (Below.refl _ _) _⟩
  case round =>
    obtain ⟨i, hi, rfl, HN, hmet, hgr⟩ := hrel
    have HMT := Lib.hid hmet
    have HG := Lib.hid hgr
    have HDW := Lib.hid (HD.out.grown HM.out.map hgr)
    by_cases hlt : i < d.length
    · obtain ⟨g, o, x, ea, hx, hr⟩ := HDW.out.at i hlt
      subst ea
      obtain ⟨x0, x1, x2⟩ := hr
      have HX := Lib.hid hx
      have hn := HN.out
      rw [drop_cons hx, dimsL] at hn
      have HNN := Lib.hid hn
      have HXS := Lib.hid (HS.out x (List.mem_of_getElem? hx))
      obtain ⟨nm, lo, hi'⟩ := x
      simp only at x0 x1 x2
      have CN := Lib.hid (fun w1 => name_any nm w1 HXS.out)
      clear hmet hgr hx hn
      cases hnb : nameB nm with
      | false =>
        have HR : Hid (dimsL met d = 11) := by show _ = _; rw [← HNN.out, if_pos (.inl hnb)]
        simp only [hnb] at CN
        clear hnb
        go_wp2_with fail
        refine (CN.out _).mono ?_
        rintro e w1 ⟨rfl, hb1⟩
        have HB1 := Lib.hid (grown_of_below (below_keep (below_alloc wr (.cells #[strV nm, .int .i64 lo, .int .i64 hi'] 74)) hb1) (some b))
        clear hb1 CN
        go_wp2
        go_ret
        rw [HR.out]
        exact ⟨rfl, HG.out.trans HB1.out, fun h => by cases h⟩
      | true =>
        simp only [hnb] at CN
        have hnb' := Lib.hid hnb
        clear hnb
        by_cases hmem : nm ∈ met ++ names (d.take i)
        · have HR : Hid (dimsL met d = 11) := by show _ = _; rw [← HNN.out, if_pos (.inr hmem)]
          have hd1 : decide (nm ∈ met ++ names (d.take i)) = true := decide_eq_true hmem
          clear hmem
          go_wp2_with fail
          refine (CN.out _).mono ?_
          rintro e w1 ⟨rfl, hb1⟩
          have hb2 := below_keep (below_alloc wr (.cells #[strV nm, .int .i64 lo, .int .i64 hi'] 74)) hb1
          have HB1 := Lib.hid (grown_of_below hb2 (some b))
          have hlk := (HMT.out.later hb2 HMT.out.lt).look nm HXS.out
          rw [hd1] at hlk
          have hc0 : w1.cell? ⟨wr.heap.size, 0, none⟩ = some (strV nm) := by
            rw [hb1.cell (p := ⟨wr.heap.size, 0, none⟩) (by simp), World.cell?_alloc_at _ _ _ _ rfl]; rfl
          clear hb1 hb2 CN hd1
          go_wp2
          go_ret
          rw [HR.out]
          exact ⟨rfl, HG.out.trans HB1.out, fun h => by cases h⟩
        · have hd1 : decide (nm ∈ met ++ names (d.take i)) = false := decide_eq_false hmem
          have hn1 := HNN.out
          by_cases hbd : -1073741824 ≤ lo ∧ lo ≤ 1073741824 ∧ lo ≤ hi' ∧ hi' ≤ 1073741825
          · obtain ⟨b1, b2, b3, b4⟩ := hbd
            have hbB : boundsB ⟨nm, lo, hi'⟩ = true := by unfold boundsB; simp [b1, b2, b3, b4]
            rw [hbB, if_neg (by simp [hnb'.out, hmem]), if_neg (by simp)] at hn1
            have HN1 := Lib.hid hn1
            have hlen : (met ++ names (d.take i)).length < 1000 := by simp [names]; omega
            have HL := Lib.hid hlen
            clear hmem hbB hn1 HNN hlen
            go_wp2_with fail
            refine (CN.out _).mono ?_
            rintro e w1 ⟨rfl, hb1⟩
            have hb2 := below_keep (below_alloc wr (.cells #[strV nm, .int .i64 lo, .int .i64 hi'] 74)) hb1
            have HB1 := Lib.hid (grown_of_below hb2 (some b))
            have hm1 := HMT.out.later hb2 HMT.out.lt
            have hlk := hm1.look nm HXS.out
            rw [hd1] at hlk
            obtain ⟨w2, hadd, hm2, hg2⟩ := hm1.add nm HXS.out HL.out
            have HM2 := Lib.hid hm2
            have HG2 := Lib.hid hg2
            have hcA : ∀ o, w1.cell? ⟨wr.heap.size, o, none⟩ = (wr.alloc (.cells #[strV nm, .int .i64 lo, .int .i64 hi'] 74)).cell? ⟨wr.heap.size, o, none⟩ := fun o => hb1.cell (p := ⟨wr.heap.size, o, none⟩) (by simp)
            have hc0 : w1.cell? ⟨wr.heap.size, 0, none⟩ = some (strV nm) := by rw [hcA, World.cell?_alloc_at _ _ _ _ rfl]; rfl
            have hc1 : w1.cell? ⟨wr.heap.size, 1, none⟩ = some (.int .i64 lo) := by rw [hcA, World.cell?_alloc_at _ _ _ _ rfl]; rfl
            have hc2 : w1.cell? ⟨wr.heap.size, 2, none⟩ = some (.int .i64 hi') := by rw [hcA, World.cell?_alloc_at _ _ _ _ rfl]; rfl
            clear hb1 hb2 CN hd1 hm1 hm2 hg2 hcA
            go_wp2
            refine ⟨⟨i + 1, by omega, by go_num, ?_, ?_, ?_⟩, by show d.length - _ < d.length - _; simp [intOf]; omega⟩
            · show _ = _
              rw [names_snoc HX.out, ← List.append_assoc]
              exact HN1.out
            · rw [names_snoc HX.out, ← List.append_assoc]
              exact HM2.out
            · exact HG.out.trans (HB1.out.trans HG2.out)
          · have hbB : boundsB ⟨nm, lo, hi'⟩ = false := by
              unfold boundsB
              simp only [Bool.and_eq_false_iff, decide_eq_false_iff_not]
              omega
            rw [hbB, if_neg (by simp [hnb'.out, hmem]), if_pos rfl] at hn1
            have HR : Hid (dimsL met d = 3) := hn1.symm
            have hcase : lo < -1073741824 ∨ (-1073741824 ≤ lo ∧ 1073741824 < lo) ∨ (-1073741824 ≤ lo ∧ lo ≤ 1073741824 ∧ hi' < lo) ∨ (-1073741824 ≤ lo ∧ lo ≤ 1073741824 ∧ lo ≤ hi' ∧ 1073741825 < hi') := by omega
            clear hmem hbB hn1 HNN hbd
            rcases hcase with b1 | ⟨b1, b2⟩ | ⟨b1, b2, b3⟩ | ⟨b1, b2, b3, b4⟩
            all_goals
              go_wp2_with fail
              refine (CN.out _).mono ?_
              rintro e w1 ⟨rfl, hb1⟩
              have hb2 := below_keep (below_alloc wr (.cells #[strV nm, .int .i64 lo, .int .i64 hi'] 74)) hb1
              have HB1 := Lib.hid (grown_of_below hb2 (some b))
              have hlk := (HMT.out.later hb2 HMT.out.lt).look nm HXS.out
              rw [hd1] at hlk
              have hcA : ∀ o, w1.cell? ⟨wr.heap.size, o, none⟩ = (wr.alloc (.cells #[strV nm, .int .i64 lo, .int .i64 hi'] 74)).cell? ⟨wr.heap.size, o, none⟩ := fun o => hb1.cell (p := ⟨wr.heap.size, o, none⟩) (by simp)
              have hc0 : w1.cell? ⟨wr.heap.size, 0, none⟩ = some (strV nm) := by rw [hcA, World.cell?_alloc_at _ _ _ _ rfl]; rfl
              have hc1 : w1.cell? ⟨wr.heap.size, 1, none⟩ = some (.int .i64 lo) := by rw [hcA, World.cell?_alloc_at _ _ _ _ rfl]; rfl
              have hc2 : w1.cell? ⟨wr.heap.size, 2, none⟩ = some (.int .i64 hi') := by rw [hcA, World.cell?_alloc_at _ _ _ _ rfl]; rfl
              clear hb1 hb2 CN hd1 hcA
              go_wp2
              go_ret
              rw [HR.out]
              exact ⟨rfl, HG.out.trans HB1.out, fun h => by cases h⟩
    · obtain rfl : i = d.length := by omega
      have hn := HN.out
      rw [List.drop_length, dimsL] at hn
      rw [List.take_length] at hmet
      have HMT := Lib.hid hmet
      have HNN := Lib.hid hn
      clear hmet hgr hn HN
      go_wp2
      go_ret
      rw [← HNN.out]
      exact ⟨rfl, HG.out, fun _ => HMT.out⟩
def StrD (d : List DimT) : Prop := ∀ x ∈ d, x.name.length ≤ 9223372036854775807
def StrA (a : List AttrT) : Prop := ∀ x ∈ a, x.name.length ≤ 9223372036854775807
theorem dims_any (d : List DimT) (v : Value) (b : Nat) (met : List (List UInt8)) (w : World) (hd : Dims w v d) (hm : MetS w b met) (hml : met.length ≤ 100) (hs : StrD d) :
    Calls Tryz.prog 95 #[v, .map (some b)] w (RetDims met d b (if d.length < 1 ∨ 4 < d.length then 13 else dimsL met d) w) := by
  by_cases h : d.length < 1 ∨ 4 < d.length
  · rw [if_pos h]
    exact dims_long d v _ b met w hd h
  · rw [if_neg h]
    exact dims_core d v b met w hd hm (by omega) (by omega) hml hs
theorem shape_any (d : List DimT) (v : Value) (w : World) (hd : Dims w v d) (hs : StrD d) :
    Calls Tryz.prog 52 #[v] w (RetV' (.int .i64 (dimsE d)) w) := by
  have C : Hid (Calls Tryz.prog 95 #[v, .map (some w.heap.size)] (w.alloc (.map #[] 0)) (RetDims [] d w.heap.size (dimsE d) (w.alloc (.map #[] 0)))) := dims_any d v w.heap.size [] (w.alloc (.map #[] 0)) (hd.later DimR.lasts (below_alloc _ _)) (MetS.made w) (by simp) hs
  obtain ⟨a, cap, rfl, c1, c2⟩ := hd.shape
  have hmm := @run_makeMap Tryz.prog
  clear hd hs
  go_enter Tryz.func52, Tryz.ntmps52
  go_wp2_with fail
  refine C.out.mono ?_
  rintro e w1 ⟨rfl, hg, -⟩
  have HB := Lib.hid (below_of_grown (below_alloc w (.map #[] 0)) (Nat.le_refl _) hg)
  clear hg hmm C
  go_wp2
  go_ret
  exact ⟨rfl, HB.out⟩
end Go.Proofs.YtdbnebhehiiakaaGreatDoor
