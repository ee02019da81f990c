/- Lemmas and contracts, each under its own condition: Contract: nat.text. Contract: Rat.Text. Parse: the number that a string denotes. Plain. Contract: Parse. Contracts: short. Values in the program; contracts: plain, missing, gcd, truth. Contracts: gcd of int64, right. -/
import Derived.Laws.Cover4
import Derived.Stop.FmtQuoteTie
import Derived.Lib.IndexMore
import Derived.Lib.Strings
import Derived.Handy
import Derived.Test.YthlkcppbljpooaaGreatDoorR1
import Derived.Test.YthlkcppbljpooaaGreatDoorT0
/- Contract: nat.text. -/
namespace Go.Proofs.YthlkcppbljpooaaGreatDoor
open Go.RowKit

/-- the last k decimal digits of d -/
def chunk : Nat → Nat → List UInt8
 | 0, _ => []
 | k + 1, d => dchar (d / 10 ^ k % 10) :: chunk k d
theorem chunk_len (k d : Nat) : (chunk k d).length = k := by
 induction k with
 | zero => rfl
 | succ k ih => simp [chunk, ih]
theorem chunk_dig (k d : Nat) : (chunk k d).all isD = true := by
 induction k with
 | zero => rfl
 | succ k ih => simp only [chunk, List.all_cons, ih, Bool.and_true]; exact dchar_isD (by omega)
theorem dval_cons (c : UInt8) (l : List UInt8) : dval (c :: l) = (c.toNat - 48) * 10 ^ l.length + dval l := by
 have key : ∀ (l : List UInt8) (a : Nat), l.foldl (fun a c => 10 * a + (c.toNat - 48)) a = a * 10 ^ l.length + dval l := by
  intro l
  induction l with
  | nil => intro a; simp [dval]
  | cons c l ih =>
   intro a
   simp only [List.foldl_cons, List.length_cons]
   rw [ih, show dval (c :: l) = l.foldl (fun a c => 10 * a + (c.toNat - 48)) (10 * 0 + (c.toNat - 48)) from rfl, ih, Nat.pow_succ, Nat.mul_zero, Nat.zero_add, Nat.add_mul, Nat.add_assoc]
   congr 1
   rw [Nat.mul_comm 10 a, Nat.mul_assoc, Nat.mul_comm 10]
 show (l.foldl _ (10 * 0 + (c.toNat - 48))) = _
 rw [key, Nat.mul_zero, Nat.zero_add]
theorem chunk_val (k d : Nat) : dval (chunk k d) = d % 10 ^ k := by
 induction k with
 | zero => simp [chunk, dval, Nat.mod_one]
 | succ k ih =>
  rw [chunk, dval_cons, ih, chunk_len, dchar_toNat (by omega), Nat.pow_succ, Nat.mod_mul]
  rw [Nat.add_comm, Nat.mul_comm (10 ^ k)]
  congr 2; omega
theorem chunk_add (j k d : Nat) : chunk (j + k) d = chunk j (d / 10 ^ k) ++ chunk k d := by
 induction j with
 | zero => simp [chunk]
 | succ j ih =>
  rw [show j + 1 + k = (j + k) + 1 from by omega, chunk, chunk, ih, List.cons_append, Nat.div_div_eq_div_mul, ← Nat.pow_add, Nat.add_comm k j]
theorem chunk_mod (k d m : Nat) (h : k ≤ m) : chunk k (d % 10 ^ m) = chunk k d := by
 induction k with
 | zero => rfl
 | succ k ih =>
  rw [chunk, chunk, ih (by omega)]
  congr 2
  obtain ⟨j, rfl⟩ : ∃ j, m = k + (j + 1) := ⟨m - (k + 1), by omega⟩
  rw [Nat.pow_add, Nat.mod_mul_right_div_self, Nat.mod_mod_of_dvd _ ⟨10 ^ j, by rw [Nat.pow_succ, Nat.mul_comm]⟩]
theorem chunk_trim (k X : Nat) (h0 : 0 < X) (h : X < 10 ^ k) : (chunk k X).dropWhile (· == 48) = dec X := by
 induction k with
 | zero => simp at h; omega
 | succ k ih =>
  rw [chunk]
  by_cases e : X < 10 ^ k
  ·rw [Nat.div_eq_of_lt e]
   rw [List.dropWhile_cons_of_pos (by rfl)]
   exact ih e
  ·have hd : X / 10 ^ k % 10 ≠ 0 := by
    have h1 : 1 ≤ X / 10 ^ k := (Nat.le_div_iff_mul_le (Nat.pow_pos (by decide))).2 (by omega)
    have h2 : X / 10 ^ k < 10 := (Nat.div_lt_iff_lt_mul (Nat.pow_pos (by decide))).2 (by rw [Nat.pow_succ] at h; omega)
    omega
   have hc : (dchar (X / 10 ^ k % 10)).toNat ≠ 48 := by rw [dchar_toNat (by omega)]; omega
   have hc' : dchar (X / 10 ^ k % 10) ≠ 48 := fun e => hc (by rw [e]; rfl)
   rw [List.dropWhile_cons_of_neg (by simpa using hc')]
   have hh : (chunk (k + 1) X).head? = some 48 → chunk (k + 1) X = [48] := by
    intro hh
    simp only [chunk, List.head?_cons, Option.some.injEq] at hh
    exact absurd hh hc'
   rw [← chunk, ← parseD_iff, parseD, if_pos ⟨by simp [chunk], hh, chunk_dig _ _⟩, chunk_val, Nat.mod_eq_of_lt h]

/-- the string of a list of bytes -/
abbrev str (l : List UInt8) : Value := .string ⟨l.toArray⟩

theorem textZero {x : Value} {w : World} (hx : IsN B32 w x 0) :
  Calls Tryz.prog 96 #[x] w fun e w' => e = .returned (.string ⟨#[48]⟩) ∧ w = w' := by
 obtain ⟨n, D, r, s⟩ := hx
 obtain ⟨ad, gb, cap, rfl, -, -, -, -⟩ := s.shape
 obtain rfl : n = 0 := (r.zero_iff (by decide)).2 rfl
 clear s r
 go_enter Tryz.func96, Tryz.ntmps96
 go_wp2
 go_ret
 exact ⟨rfl, rfl⟩

theorem infoStr : (Tryz.prog.info? 9).map (fun i => (i.zero, i.size, i.bytes)) = some (some (.string ⟨#[]⟩), 1, 16) := by kernel_rfl
theorem encode_dchar (t : Nat) (l : List UInt8) : Utf8.encode (48 + (t : Int) % 10) ++ ⟨l.toArray⟩ = (⟨(dchar (t % 10) :: l).toArray⟩ : ByteArray) := by
 have e : (48 + (t : Int) % 10) = ((48 + t % 10 : Nat) : Int) := by omega
 rw [e]
 have c1 : 48 + t % 10 < 128 := by omega
 have v : Utf8.valid ((48 + t % 10 : Nat) : Int) = true := by simp [Utf8.valid]; omega
 have hb : ∀ a b : ByteArray, a.data.toList = b.data.toList → a = b := by
  intro a b h
  cases a; cases b
  simp only [ByteArray.mk.injEq]
  exact Array.toList_inj.1 h
 apply hb
 rw [ByteArray.data_append, Array.toList_append, Go.Extern.FmtText.enc1 _ c1]
 rfl
theorem Sm.bits' {X : Nat} (h : Sm X) : X < 2 ^ (32 * LIM) := by
 have h1 := h.lt
 rw [show B32 = 2 ^ 32 from rfl, ← Nat.pow_mul] at h1
 exact h1
theorem rounds_le {X k i : Nat} (sx : Sm X) (hk : k = X / 10 ^ (9 * i)) (h : k ≠ 0) : i ≤ 1200000 := by
 have h1 : 10 ^ (9 * i) ≤ X := by
  rcases Nat.lt_or_ge X (10 ^ (9 * i)) with e | e
  ·exact absurd (by rw [hk, Nat.div_eq_of_lt e]) h
  ·exact e
 have h2 : 2 ^ (27 * i) ≤ 10 ^ (9 * i) := by
  rw [show 27 * i = 3 * (9 * i) from by omega, Nat.pow_mul]
  exact Nat.pow_le_pow_left (by decide) _
 have h3 : 2 ^ (27 * i) < 2 ^ (32 * LIM) := Nat.lt_of_le_of_lt (Nat.le_trans h2 h1) sx.bits'
 have := (Nat.pow_lt_pow_iff_right (by decide : 1 < 2)).1 h3
 have := LIM_eq
 omega

theorem IsN.grown {B base n : Nat} {e : TypeId} {w w' : World} {v u : Value} {X : Nat} {xs : List Value} (h : IsN B w v X) (ho : w.ownsRow base e 1 u n xs) (h0 : n = 0 → u = .slice none 0 0)
  (hx : ∀ x ∈ xs, ∀ k m, x ≠ .int k m) (hg : w.grownBy w' u.ownBlock) : IsN B w' v X := by
 obtain ⟨m, D, r, hs⟩ := h
 refine ⟨m, D, r, ?_⟩
 rcases hs with hs | ⟨g, cap, h1, h2, h3, h4⟩
 ·exact .inl hs
 ·refine .inr ⟨g, cap, h1, h2, h3, fun i hi => hg.cell (h4 i hi) ?_⟩
  intro e1
  rcases ho.2 with ⟨e2, -⟩ | ⟨g', c', cur, e2, -, e3, e4, -, e5, e6⟩
  ·rw [e2] at e1; simp [Value.ownBlock] at e1
  ·rw [e2] at e1
   simp only [Value.ownBlock, Option.some.injEq] at e1
   subst e1
   have hn : 0 < n := by
    rcases Nat.eq_zero_or_pos n with e | e
    ·have := h0 e; rw [e2] at this; simp at this
    ·exact e
   have hx0 : 0 < xs.length := by rw [ho.1]; omega
   have c0 := ho.cells (g := g) (by rw [e2]; rfl) 0 xs[0] (List.getElem?_eq_getElem hx0)
   have c1 := h4 0 (by omega)
   have e7 : (⟨g, 0, none⟩ : Addr).add 0 = ⟨g, 0, none⟩ := by simp [Addr.add]
   rw [e7, c1] at c0
   exact hx _ (List.getElem_mem hx0) _ _ (Option.some.inj c0).symm

theorem own_below {w w' : World} {B e size n : Nat} {v : Value} {xs : List Value} (h : w.ownsRow B e size v n xs) (hb : Below w.heap.size w w') : w'.ownsRow B e size v n xs := by
 refine ⟨h.1, ?_⟩
 rcases h.2 with hn | ⟨g, cap, cur, rfl, hg, hgg, rest⟩
 ·exact .inl hn
 ·exact .inr ⟨g, cap, cur, rfl, hg, by rw [hb.block g (Array.getElem?_eq_some_iff.1 hgg).1]; exact hgg, rest⟩

set_option maxHeartbeats 1600000 in
set_option maxRecDepth 100000 in
theorem text_pos {X : Nat} {x : Value} {w : World} (hx : IsN B32 w x X) (sx : Sm X) (h0 : 0 < X) :
  Calls Tryz.prog 96 #[x] w fun e w' => e = .returned (str (dec X)) ∧ Below w.heap.size w w' := by
 have hx' := Lib.hid hx
 obtain ⟨n, D, r, s⟩ := hx
 obtain ⟨ad, gb, cap, rfl, -, -, -, -⟩ := s.shape
 have hn : n ≠ 0 := fun e => by subst e; have := (r.zero_iff (by decide)).1 rfl; omega
 have hnb : (((n : Nat) : Int) == 0) = false := by rw [beq_eq_false_iff_ne]; omega
 have hnl : n ≤ 1000000 := sx.len r
 clear s r
 go_enter Tryz.func96, Tryz.ntmps96
 go_wp2
 go_loopg [0, 3] X (fun k xv pv wr => ∃ i : Nat, k = X / 10 ^ (9 * i) ∧ IsN B32 wr xv k ∧ wr.ownsRow w.heap.size 9 1 pv i ((List.range i).map fun m => str (chunk 9 (X / 10 ^ (9 * m)))) ∧ Hid (i = 0 → pv = .slice none 0 0) ∧ Hid (i ≤ 1200001) ∧ Below w.heap.size w wr)
 case atStart => exact ⟨0, by simp, hx'.out, World.ownsRow_nil _ _ _ _, fun _ => rfl, Nat.zero_le _, Below.refl _ _⟩
 case round =>
  rename_i xv pv
  obtain ⟨i, hk, hN, hown, hnil, hil, hb⟩ := hrel
  have sk : Sm gk := sx.mono (by rw [hk]; exact Nat.div_le_self _ _)
  have hN' := Lib.hid hN
  obtain ⟨n, D, r, s⟩ := hN
  obtain ⟨ad, gb, cap, rfl, -, -, -, -⟩ := s.shape
  have hz := r.zero_iff (by decide)
  by_cases h1 : gk = 0
  ·subst h1
   obtain rfl : n = 0 := hz.2 rfl
   have hXi : X < 10 ^ (9 * i) := by
    rcases Nat.lt_or_ge X (10 ^ (9 * i)) with e | e
    ·exact e
    ·have := (Nat.le_div_iff_mul_le (Nat.pow_pos (n := 9 * i) (by decide : 0 < 10))).2 (by simpa using e : 1 * 10 ^ (9 * i) ≤ X)
     omega
   have hi0 : i ≠ 0 := by rintro rfl; simp at hXi; omega
   have hi9 : i ≤ 1200001 := hil.out
   have hXi' := Lib.hid hXi
   have hown' := Lib.hid hown
   have hb' := Lib.hid hb
   obtain ⟨gp, cap, cur, rfl, hgp, hgb, -, -, -, -⟩ := hown.2.resolve_left (fun h => hi0 h.2)
   have hgl : gp < wr.heap.size := (Array.getElem?_eq_some_iff.1 hgb).1
   have hcell : Hid (∀ m, m < i → wr.cell? ⟨gp, m, none⟩ = some (str (chunk 9 (X / 10 ^ (9 * m))))) := by
    intro m hm
    have e1 := hown.cells (g := gp) rfl m (str (chunk 9 (X / 10 ^ (9 * m)))) (by rw [List.getElem?_map, List.getElem?_range hm]; rfl)
    have e2 : (⟨gp, 0, none⟩ : Addr).add m = ⟨gp, m, none⟩ := by unfold Addr.add; split <;> simp_all
    rw [e2] at e1
    exact e1
   clear hown hb hnil hk hN' sk hz s r hXi
   go_wp2
   go_loopw [8] (fun jv wy => ∃ m : Nat, m ≤ i ∧ jv = .int .i64 ((m : Int) - 1) ∧ Lib.IsBuilder TB T8 wr.heap.size wr.heap.size (Lib.byteCells (chunk (9 * (i - m)) (X / 10 ^ (9 * m)))) wy ∧ Below wr.heap.size wr wy) (fun jv _ => (intOf jv + 1).toNat)
   case atStart => exact ⟨i, Nat.le_refl _, by simp, by rw [Nat.sub_self]; exact Lib.fresh_isBuilder TB T8 wr, below_alloc _ _⟩
   case round =>
    obtain ⟨m, hm, rfl, hB, hbw⟩ := hrel
    by_cases hm0 : m = 0
    ·subst hm0
     have hB' := Lib.hid hB
     have hbw' := Lib.hid hbw
     clear hB hbw
     go_wp2_with fail
     have hne : chunk (9 * (i - 0)) (X / 10 ^ (9 * 0)) ≠ [] := by
      intro e
      have := congrArg List.length e
      rw [chunk_len] at this
      simp at this; omega
     refine (Tryz.Builder_String _ _ _ _ hB'.out hne).mono ?_
     rintro e w3 ⟨rfl, hb3⟩
     go_wp2_with fail
     refine (Tryz.strings_TrimLeft_one _ 48 (by decide) _).mono ?_
     rintro e w4 ⟨rfl, rfl⟩
     go_wp2
     go_ret
     have e3 : Lib.trimLeftB (chunk (9 * i) X) 48 = dec X := chunk_trim _ _ h0 hXi'.out
     refine ⟨congrArg (fun l : List UInt8 => Ending.returned (str l)) e3, hb'.out.trans ((hbw'.out.trans hb3).mono hb'.out.size)⟩
    ·obtain ⟨m, rfl⟩ : ∃ k, m = k + 1 := ⟨m - 1, by omega⟩
     rw [show ((m + 1 : Nat) : Int) - 1 = (m : Nat) from by omega]
     have hmi : m < i := hm
     have hc1 : wr.cell? ⟨gp, m, none⟩ = some (str (chunk 9 (X / 10 ^ (9 * m)))) := (hbw.cell (p := ⟨gp, m, none⟩) hgl).trans (hcell.out m hmi)
     have hB' := Lib.hid hB
     have hbw' := Lib.hid hbw
     have hpw := Lib.hid (chunk_add (9 * (i - (m + 1))) 9 (X / 10 ^ (9 * m)))
     clear hB hbw
     go_wp2_with fail
     refine (bld_write _ _ _ _ _ hB'.out ?_ hbw'.out.size).mono ?_
     ·rw [show (Lib.byteCells (chunk (9 * (i - (m + 1))) (X / 10 ^ (9 * (m + 1))))).length = 9 * (i - (m + 1)) from by rw [Lib.byteCells, List.length_map, chunk_len],
       show (⟨(chunk 9 (X / 10 ^ (9 * m))).toArray⟩ : ByteArray).size = 9 from by show (chunk 9 (X / 10 ^ (9 * m))).toArray.size = 9; rw [List.size_toArray, chunk_len]]
      omega
     rintro e w3 ⟨rfl, hB3, hb3⟩
     go_wp2
     refine ⟨⟨m, by omega, rfl, .inr ?_, hbw'.out.trans hb3⟩, ?_⟩
     ·have e1 : chunk (9 * (i - m)) (X / 10 ^ (9 * m)) = chunk (9 * (i - (m + 1))) (X / 10 ^ (9 * (m + 1))) ++ chunk 9 (X / 10 ^ (9 * m)) := by
       rw [show 9 * (i - m) = 9 * (i - (m + 1)) + 9 from by omega, hpw.out, Nat.div_div_eq_div_mul, ← Nat.pow_add, show 9 * m + 9 = 9 * (m + 1) from by omega]
      rw [e1]
      have e2 : Lib.byteCells (chunk (9 * (i - (m + 1))) (X / 10 ^ (9 * (m + 1))) ++ chunk 9 (X / 10 ^ (9 * m))) = Lib.byteCells (chunk (9 * (i - (m + 1))) (X / 10 ^ (9 * (m + 1)))) ++ Lib.strCells ⟨(chunk 9 (X / 10 ^ (9 * m))).toArray⟩ := by
       simp [Lib.byteCells, Lib.strCells]
      rw [e2]
      exact hB3
     ·show ((m : Int) - 1 + 1).toNat < ((m : Int) + 1).toNat
      omega
  ·have hnp : n ≠ 0 := fun e => h1 (hz.1 e)
   have hnp' : decide ((0 : Int) < (n : Int)) = true := by rw [decide_eq_true_eq]; omega
   clear s r hz
   go_wp2_with fail
   refine (small_any (d := 1000000000) hN'.out sk (by decide) (by decide)).mono ?_
   rintro e w1 ⟨v1, rfl, hv1, hb1⟩
   obtain ⟨d, hd⟩ : ∃ d, d = gk % 1000000000 := ⟨_, rfl⟩
   rw [← hd]
   have hd' := Lib.hid hd
   have hd2 : d < 1000000000 := by rw [hd]; exact Nat.mod_lt _ (by decide)
   have hv1' := Lib.hid hv1
   have hown' := Lib.hid (own_below hown hb1)
   have hi9 := Lib.hid (rounds_le sx hk h1)
   have hb' := Lib.hid (hb.trans (hb1.mono hb.size))
   have hk' := Lib.hid hk
   have h1' := Lib.hid h1
   clear hd hv1 hown hb hb1 hk hN' sk hnp hnp' h1
   go_wp2
   obtain ⟨wo, hwo⟩ : ∃ wo : World, wo = w1 := ⟨_, rfl⟩
   go_loopw [5, 6, 20] (fun dv sv jv wy => ∃ j : Nat, j ≤ 9 ∧ jv = .int .i64 (j : Nat) ∧ dv = .int .u32 ((d / 10 ^ j : Nat) : Int) ∧ sv = str (chunk j d) ∧ wy = wo) (fun _ _ jv _ => 9 - (intOf jv).toNat)
   case atStart => exact ⟨0, by omega, rfl, by simp, rfl, hwo.symm⟩
   case round =>
    obtain ⟨j, hj, rfl, rfl, rfl, rfl⟩ := hrel
    by_cases h9 : j < 9
    ·obtain ⟨t, ht⟩ : ∃ t, t = d / 10 ^ j := ⟨_, rfl⟩
     rw [← ht]
     have ht' := Lib.hid ht
     have ht2 : t < 1000000000 := by rw [ht]; exact Nat.lt_of_le_of_lt (Nat.div_le_self _ _) hd2
     have hlen : (chunk j d).length = j := chunk_len j d
     have hlen' := Lib.hid hlen
     clear ht hlen
     go_wp2
     ·exfalso
      rename_i hh
      rw [hlen'.out] at hh
      have := encode_size_le (48 + (t : Int) % 10)
      omega
     refine ⟨⟨j + 1, by omega, rfl, ?_, ?_, hwo.symm⟩, ?_⟩
     ·have e1 : ((t : Int) / 10) = ((d / 10 ^ (j + 1) : Nat) : Int) := by
       rw [Nat.pow_succ, ← Nat.div_div_eq_div_mul, ← ht'.out]; rfl
      rw [e1]
     ·have e2 : chunk (j + 1) d = dchar (t % 10) :: chunk j d := by rw [chunk, ← ht'.out]
      rw [e2]
      exact congrArg Value.string (encode_dchar t _)
     ·show 9 - (j + 1) < 9 - j; omega
    ·obtain rfl : j = 9 := by omega
     obtain ⟨i0, hi, hz0, hz1, hz2⟩ := info_parts infoStr
     have hown1 := hown'.out
     go_wp2_with (at_builtin; refine wpList_append_own _ rfl _ _ 159 rfl w.heap.size 9 i0 (.string ⟨#[]⟩) 1 16 Tryz.underlying159 hi hz0 hz1 hz2 rfl (by decide) _ _ _ rfl (hown1.alloc _) ⟨w1.heap.size, 0, none⟩ 1 1 [str (chunk 9 d)] rfl rfl ?c1 ?c2 ?c3 ?c4 ?c5 ?_)
     case c1 =>
      intro j u hj
      match j, hj with
      | 0, hj => simp at hj; subst hj; simp [Addr.add]
     case c2 => intro u hu; simp at hu; subst hu; rfl
     case c3 => have := hi9.out; unfold maxLen; omega
     case c4 => have := hi9.out; omega
     case c5 => have := hb'.out.size; simp; omega
     intro v' w2 hown2 hgrow _
     go_wp2
     have hB2 : Below w.heap.size w w2 := (hb'.out.alloc hb'.out.size _).grown hgrow (by have := hb'.out.size; simp; omega) (fun k hk => (hown1.lt k hk).1)
     have hv2 : IsN B32 w2 v1 (gk / 1000000000) := by
      refine (hv1'.out.later (below_alloc _ _)).grown (hown1.alloc _) hnil.out ?_ hgrow
      intro x hx k m
      rw [List.mem_map] at hx
      obtain ⟨_, _, rfl⟩ := hx
      simp
     have hlt := Lib.hid (Nat.div_lt_self (Nat.pos_of_ne_zero h1'.out) (by decide : 1 < 1000000000))
     go_roundg (gk / 1000000000)
     case measure => exact hlt.out
     case rel =>
      refine ⟨i + 1, ?_, hv2, ?_, fun e => absurd e (by omega), Nat.succ_le_succ hi9.out, hB2⟩
      ·rw [hk'.out, Nat.div_div_eq_div_mul, show 9 * (i + 1) = 9 * i + 9 from by omega, Nat.pow_add]
      ·rw [List.range_succ, List.map_append]
       have e2 : [str (chunk 9 d)] = List.map (fun m => str (chunk 9 (X / 10 ^ (9 * m)))) [i] := by
        simp only [List.map_cons, List.map_nil]
        rw [hd'.out, hk'.out, show (1000000000 : Nat) = 10 ^ 9 from by decide, chunk_mod _ _ _ (Nat.le_refl _)]
       rw [← e2]
       exact hown2

/-- the decimal numeral of a number -/
theorem text_any {X : Nat} {x : Value} {w : World} (hx : IsN B32 w x X) (sx : Sm X) :
  Calls Tryz.prog 96 #[x] w fun e w' => e = .returned (str (dec X)) ∧ Below w.heap.size w w' := by
 rcases Nat.eq_zero_or_pos X with rfl | h0
 ·refine (textZero hx).mono ?_
  rintro e w' ⟨rfl, rfl⟩
  exact ⟨by rw [dec_small (by decide)]; rfl, Below.refl _ _⟩
 ·exact text_pos hx sx h0
end Go.Proofs.YthlkcppbljpooaaGreatDoor
/- Contract: Rat.Text. -/
namespace Go.Proofs.YthlkcppbljpooaaGreatDoor
open Go.RowKit

theorem dec_len_le (n k : Nat) (hk : 0 < k) (h : n < 10 ^ k) : (dec n).length ≤ k := by
 induction k generalizing n with
 | zero => omega
 | succ k ih =>
  by_cases e : n < 10
  ·rw [dec_small e]; simp
  ·rw [dec_big (by omega), List.length_append]
   have hk' : 0 < k := by
    rcases Nat.eq_zero_or_pos k with rfl | h'
    ·simp at h; omega
    ·exact h'
   have := ih (n / 10) hk' ((Nat.div_lt_iff_lt_mul (by decide)).2 (by rw [Nat.pow_succ] at h; exact h))
   simp; omega
theorem Sm.dec_len {X : Nat} (h : Sm X) : (dec X).length ≤ 32000000 := by
 have h1 := h.bits'
 have h2 : X < 10 ^ (32 * LIM) := Nat.lt_of_lt_of_le h1 (Nat.pow_le_pow_left (by decide) _)
 have := LIM_eq
 have := dec_len_le X (32 * LIM) (by omega) h2
 omega

/-- the string of a number -/
def ratS (q : Rat) : List UInt8 := (if qneg q = true then [45] else []) ++ dec (qnum q) ++ (if q.den = 1 then [] else 47 :: dec q.den)

theorem bytes_eq {a b : ByteArray} (h : a.data.toList = b.data.toList) : a = b := by
 cases a; cases b
 simp only [ByteArray.mk.injEq]
 exact Array.toList_inj.1 h

set_option maxHeartbeats 1600000 in
set_option maxRecDepth 100000 in
theorem ratText_core {q : Rat} {g : Nat} {vn vd : Value} {w : World} (h : IsRAt w g vn vd q) (s : SmR q) :
  Calls Tryz.prog 98 #[.pointer (some ⟨g, 0, none⟩)] w fun e w' => e = .returned (str (ratS q)) ∧ Below w.heap.size w w' := by
 have hv := Lib.hid (valid_any ⟨g, vn, vd, rfl, h⟩)
 have k1 := h.num
 have H1 := Lib.hid (text_any h.isNum s.num)
 have L1 := s.num.dec_len
 have L2 := s.den.dec_len
 have H2 := Lib.hid (fun (w1 : World) (hb : Below w.heap.size w w1) => one_any (w := w1) (h.isDen.later hb))
 have H3 := Lib.hid (fun (w1 : World) (hb : Below w.heap.size w w1) => text_any (w := w1) (h.isDen.later hb) s.den)
 have K := Lib.hid (fun (w1 : World) (hb : Below w.heap.size w w1) => (h.later hb))
 clear h s
 go_enter Tryz.func98, Tryz.ntmps98
 go_wp2_with fail
 refine hv.out.mono ?_
 rintro e w' ⟨rfl, rfl⟩
 clear hv
 go_wp2_with fail
 refine H1.out.mono ?_
 rintro e w1 ⟨rfl, hb1⟩
 have k2 := (K.out w1 hb1).neg
 have k3 := (K.out w1 hb1).den
 clear k1
 rcases hq : qneg q with _ | _
 all_goals
  rw [hq] at k2
  have HQ := Lib.hid hq
  clear hq
  go_wp2_with fail
  refine (H2.out w1 hb1).mono ?_
  rintro e w' ⟨rfl, rfl⟩
  by_cases hd : q.den = 1
  ·have hd' : decide (q.den = 1) = true := by simp [hd]
   have HD := Lib.hid hd
   clear hd
   go_wp2
   go_ret
   refine ⟨congrArg (fun b : ByteArray => Ending.returned (.string b)) (bytes_eq ?_), hb1⟩
   simp [ratS, HQ.out, HD.out]
  ·have hd' : decide (q.den = 1) = false := by simp [hd]
   have HD := Lib.hid hd
   clear hd
   go_wp2_with fail
   refine (H3.out w1 hb1).mono ?_
   rintro e w3 ⟨rfl, hb3⟩
   go_wp2
   go_ret
   refine ⟨congrArg (fun b : ByteArray => Ending.returned (.string b)) (bytes_eq ?_), hb1.trans (hb3.mono hb1.size)⟩
   simp [ratS, HQ.out, HD.out]

theorem ratText_any {q : Rat} {v : Value} {w : World} (h : IsR w v q) (s : SmR q) :
  Calls Tryz.prog 98 #[v] w fun e w' => e = .returned (str (ratS q)) ∧ Below w.heap.size w w' := by
 obtain ⟨g, vn, vd, rfl, h⟩ := h
 exact ratText_core h s
end Go.Proofs.YthlkcppbljpooaaGreatDoor
/- Parse: the number that a string denotes. Plain. -/
namespace Go.Proofs.YthlkcppbljpooaaGreatDoor
open Go.RowKit

end Go.Proofs.YthlkcppbljpooaaGreatDoor
/- Contract: Parse. -/
namespace Go.Proofs.YthlkcppbljpooaaGreatDoor
open Go.RowKit

/-- the package-level variable MaxLen lies where it lies -/
def Ml (w : World) : Prop := ∃ m, w.cell? ⟨1, 0, none⟩ = some (.int .i64 m)
theorem Ml.later {w w' : World} (h : Ml w) (hb : Below w.heap.size w w') : Ml w' :=
 let ⟨m, h1⟩ := h; ⟨m, (hb.cell (p := ⟨1, 0, none⟩) (World.block_lt_of_cell? w _ h1)).trans h1⟩

end Go.Proofs.YthlkcppbljpooaaGreatDoor
/- Contracts: short. -/
namespace Go.Proofs.YthlkcppbljpooaaGreatDoor
open Go.RowKit

/-- 2 to the 40th -/
abbrev T40 : Nat := 1099511627776

end Go.Proofs.YthlkcppbljpooaaGreatDoor
/- Values in the program; contracts: plain, missing, gcd, truth. -/
namespace Go.Proofs.YthlkcppbljpooaaGreatDoor
open Go.RowKit

/-- a value: its kind, its two numbers, its string -/
structure Va where
 kind : Int
 num : Int
 den : Int
 str : List UInt8
deriving DecidableEq
/-- the value in the program -/
abbrev Va.v (x : Va) : Value := .agg #[.int .i64 x.kind, .int .i64 x.num, .int .i64 x.den, .string ⟨x.str.toArray⟩]

theorem plain_any (x : Va) (w : World) :
  Calls Tryz.prog 113 #[x.v] w fun e w' => e = .returned (.bool (decide (x.den = 0 ∧ x.str = []))) ∧ Below w.heap.size w w' := by
 obtain ⟨k, n, d, s⟩ := x
 go_enter Tryz.func113, Tryz.ntmps113
 by_cases h : d = 0
 ·subst h
  go_wp2
  go_ret
  refine ⟨ret_bool ?_, below_alloc _ _⟩
  cases s <;> simp
 ·go_wp2
  go_ret
  refine ⟨ret_bool ?_, below_alloc _ _⟩
  simp [h]

theorem right1_any (r : Int) (w : World) :
  Calls Tryz.prog 115 #[.int .i32 r] w fun e w' => e = .returned (.bool (decide (r < 32 ∨ 126 < r))) ∧ w' = w := by
 go_enter Tryz.func115, Tryz.ntmps115
 by_cases h : r < 32
 ·have h1 : decide (r < 32) = true := by simp [h]
  go_wp2
  go_ret
  exact ⟨ret_bool (by simp [h]), rfl⟩
 ·have h1 : decide (r < 32) = false := by simp [h]
  go_wp2
  go_ret
  exact ⟨ret_bool (by simp), rfl⟩
end Go.Proofs.YthlkcppbljpooaaGreatDoor
/- Contracts: gcd of int64, right. -/
namespace Go.Proofs.YthlkcppbljpooaaGreatDoor
open Go.RowKit

theorem igcd_any (a b : Nat) (ha : a ≤ T40) (hb : b ≤ T40) (w : World) :
  Calls Tryz.prog 114 #[.int .i64 a, .int .i64 b] w (RetQ (.int .i64 (Nat.gcd a b)) w) := by
 go_enter Tryz.func114, Tryz.ntmps114
 go_wp2
 go_loopw [0, 1] (fun x y wr => ∃ m n : Nat, x = .int .i64 m ∧ y = .int .i64 n ∧ m ≤ T40 ∧ n ≤ T40 ∧ Hid (Nat.gcd m n = Nat.gcd a b) ∧ Hid (∃ k, wr = w.drewN k)) (fun _ y _ => (intOf y).toNat)
 case atStart => exact ⟨a, b, rfl, rfl, ha, hb, rfl, 0, rfl⟩
 case round =>
  obtain ⟨m, n, rfl, rfl, hm, hn, hg, hw⟩ := hrel
  by_cases h0 : n = 0
  ·subst h0
   go_wp2
   go_ret
   refine ⟨ret_int ?_, hw.out⟩
   rw [← hg.out, Nat.gcd_zero_right]
  ·have hz : ((n : Int) == 0) = false := by rw [beq_eq_false_iff_ne]; omega
   have hz2 : (n : Int) ≠ 0 := by omega
   go_wp2
   go_quiet (fail)
   go_wp2
   have hlt : m % n < n := Nat.mod_lt _ (by omega)
   refine ⟨⟨n, m % n, rfl, rfl, hn, by omega, ?_, ?_⟩, ?_⟩
   ·show Nat.gcd n (m % n) = Nat.gcd a b
    rw [Nat.gcd_comm, ← Nat.gcd_rec, Nat.gcd_comm]; exact hg.out
   ·obtain ⟨k, rfl⟩ := hw.out
    exact ⟨k + nq, by rw [World.drewN_drewN]⟩
   ·show ((m : Int) % (n : Int)).toNat < ((n : Nat) : Int).toNat
    rw [← Int.natCast_emod, Int.toNat_natCast, Int.toNat_natCast]; exact hlt
end Go.Proofs.YthlkcppbljpooaaGreatDoor
