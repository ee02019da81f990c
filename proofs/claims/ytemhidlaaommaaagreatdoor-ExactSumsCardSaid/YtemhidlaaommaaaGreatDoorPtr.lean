/- Rows of pointers: appending to them; sums of parts. -/
import Derived.Deep.AppendLies
import Derived.Deep.Upon
import Derived.Test.YtemhidlaaommaaaGreatDoorN1
import Derived.Test.YtemhidlaaommaaaGreatDoorSumB
namespace Go.Proofs.YtemhidlaaommaaaGreatDoor
open Go.RowKit Go.Shelf

/-- the cells of pointers -/
def rowP (ps : Nat → Value) (n : Nat) : List Value := (List.range n).map ps
theorem rowP_len (ps : Nat → Value) (n : Nat) : (rowP ps n).length = n := by simp [rowP]
theorem rowP_get {ps : Nat → Value} {n i : Nat} (h : i < n) : (rowP ps n)[i]? = some (ps i) := by simp [rowP, h]
theorem rowP_congr {ps qs : Nat → Value} (n : Nat) (h : ∀ i, i < n → ps i = qs i) : rowP ps n = rowP qs n := by
  unfold rowP; apply List.map_congr_left; intro i hi; exact h i (List.mem_range.1 hi)
def putV {α : Type} (ps : Nat → α) (k : Nat) (z : α) : Nat → α := fun i => if i = k then z else ps i
theorem putV_same {α : Type} (ps : Nat → α) (k : Nat) (z : α) : putV ps k z k = z := by simp [putV]
theorem putV_other {α : Type} (ps : Nat → α) {k i : Nat} (z : α) (h : i ≠ k) : putV ps k z i = ps i := by simp [putV, h]
theorem rowP_put (ps : Nat → Value) (k : Nat) (z : Value) : rowP ps k ++ [z] = rowP (putV ps k z) (k + 1) := by
  rw [show rowP (putV ps k z) (k + 1) = rowP (putV ps k z) k ++ [putV ps k z k] from by simp [rowP, List.range_succ]]
  rw [putV_same, rowP_congr k (fun i hi => putV_other ps z (by omega))]
def consV {α : Type} (z : α) (ps : Nat → α) : Nat → α := fun i => if i = 0 then z else ps (i - 1)
theorem rowP_cons (z : Value) (ps : Nat → Value) (r : Nat) : z :: rowP ps r = rowP (consV z ps) (1 + r) := by
  unfold rowP
  rw [Nat.add_comm, List.range_succ_eq_map, List.map_cons, List.map_map]
  rfl
theorem addP (g j : Nat) : (⟨g, 0, none⟩ : Addr).add j = ⟨g, j, none⟩ := by unfold Addr.add; split <;> simp_all
theorem info22p : (Tryz.prog.info? 22).map (fun i => (i.zero, i.size, i.bytes)) = some (some (.pointer none), 1, 8) := by kernel_rfl

theorem IsN.grownP {B X : Nat} {W W' : World} {v : Value} {row : Option Nat} (h : IsN B W v X) (hg : W.grownBy W' row) (hr : ∀ r, row = some r → ∃ p, W.cell? ⟨r, 0, none⟩ = some (.pointer p)) : IsN B W' v X := by
  obtain ⟨n, D, r, s⟩ := h
  refine ⟨n, D, r, ?_⟩
  rcases s with h | ⟨g, cap, e, h1, h2, h3⟩
  · exact .inl h
  · refine .inr ⟨g, cap, e, h1, h2, fun i hi => (hg.cell_far ⟨g, i, none⟩ (World.block_lt_of_cell? W ⟨g, i, none⟩ (h3 i hi)) (fun e => ?_)).trans (h3 i hi)⟩
    obtain ⟨p, hp⟩ := hr g e.symm
    have := h3 0 (by omega)
    rw [hp] at this; cases this
theorem IsR.grownP {W W' : World} {v : Value} {q : Rat} {row : Option Nat} (h : IsR W v q) (hg : W.grownBy W' row) (hr : ∀ r, row = some r → ∃ p, W.cell? ⟨r, 0, none⟩ = some (.pointer p)) : IsR W' v q := by
  obtain ⟨g, vn, vd, e, ⟨h0, h1, h2, h3, h4⟩⟩ := h
  have hne : some g ≠ row := fun e => by
    obtain ⟨p, hp⟩ := hr g e.symm
    rw [h0] at hp; cases hp
  have key : ∀ (i : Nat) (u : Value), W.cell? ⟨g, i, none⟩ = some u → W'.cell? ⟨g, i, none⟩ = some u := fun i u hu =>
    (hg.cell_far ⟨g, i, none⟩ (World.block_lt_of_cell? W ⟨g, i, none⟩ hu) hne).trans hu
  exact ⟨g, vn, vd, e, key 0 _ h0, key 1 _ h1, key 2 _ h2, h3.grownP hg hr, h4.grownP hg hr⟩

/-- a row's first cell -/
theorem own_cell {w : World} {base n : Nat} {e : TypeId} {v : Value} {ps : Nat → Value} (h : w.ownsRow base e 1 v n (rowP ps n)) {g : Nat} (hg : v.ownBlock = some g) {i : Nat} (hi : i < n) : w.cell? ⟨g, i, none⟩ = some (ps i) := by
  have := h.cells (g := g) hg i _ (rowP_get hi)
  rwa [addP] at this
theorem own_pts {w : World} {base n : Nat} {e : TypeId} {v : Value} {ps : Nat → Value} (h : w.ownsRow base e 1 v n (rowP ps n)) : PtS w v n ps := by
  have hc := fun g hg (i : Nat) (hi : i < n) => own_cell h (g := g) hg hi
  rcases h.2 with ⟨rfl, rfl⟩ | ⟨g, cap, cur, rfl, hb, hg, hn, hm, _⟩
  · exact .inl ⟨none, 0, rfl, rfl⟩
  · refine .inr ⟨g, 0, cap, rfl, hn, by unfold maxLen at hm; omega, ?_, fun i hi => ?_⟩
    · rcases Nat.lt_or_ge g w.heap.size with hlt | hge
      · exact hlt
      · rw [Array.getElem?_eq_none hge] at hg; cases hg
    · rw [Nat.zero_add]; exact hc g rfl i hi

/-- a pointer is appended -/
theorem wp_append_ptr {o : Oper} {a : Act} {K : Act → World → Prop} {Q : Exit → Act → World → Prop} {w1 : World} (s x : Operand)
    (ho : o.op = .call { callee := .builtin .append, args := #[s, x], argTypes := #[72, 72] })
    (base k : Nat) (ps : Nat → Value) (v z : Value) (B : Nat) (hown : w1.ownsRow base 22 1 v k (rowP ps k)) (hz : ∃ p, z = .pointer p) (hB : w1.cell? ⟨B, 0, none⟩ = some z)
    (hs : a.eval s = v) (hx : a.eval x = .slice (some ⟨B, 0, none⟩) 1 1) (hk : k ≤ 1000000) (hbase : base ≤ w1.heap.size)
    (h : ∀ g cap w', w'.ownsRow base 22 1 (.slice (some ⟨g, 0, none⟩) (k + 1) cap) (k + 1) (rowP (putV ps k z) (k + 1)) → w1.grownBy w' v.ownBlock → K (a.put o.dst (.slice (some ⟨g, 0, none⟩) (k + 1) cap)) w') :
    o.wp Tryz.prog a w1 K Q := by
  obtain ⟨i0, hi, hz0, hz1, hz2⟩ := info_parts info22p
  refine wp_append_lies w1 s x 72 ho base 22 i0 (.pointer none) 1 8 Tryz.underlying72 hi hz0 hz1 hz2 rfl (by decide) v k (rowP ps k) hs hown ⟨B, 0, none⟩ 1 1 [z] hx rfl ?_ ?_ (by decide) ?_ ?_ hbase _ rfl ?_
  · intro j u hj
    match j, hj with
    | 0, hj => simp at hj; subst hj; exact hB
  · intro u hu
    simp at hu; subst hu
    obtain ⟨p, rfl⟩ := hz
    rfl
  · unfold maxLen; omega
  · omega
  · intro g cap w' hown' hgrow _ _
    rw [rowP_put] at hown'
    exact h g cap w' hown' hgrow
theorem wpList_append_ptr {ops : Array Oper} {rest : List Oper} {o : Oper} {a : Act} {Q : Exit → Act → World → Prop} {w1 : World} (hgd : o.guard = none) (s x : Operand)
    (ho : o.op = .call { callee := .builtin .append, args := #[s, x], argTypes := #[72, 72] })
    (base k : Nat) (ps : Nat → Value) (v z : Value) (B : Nat) (hown : w1.ownsRow base 22 1 v k (rowP ps k)) (hz : ∃ p, z = .pointer p) (hB : w1.cell? ⟨B, 0, none⟩ = some z)
    (hs : a.eval s = v) (hx : a.eval x = .slice (some ⟨B, 0, none⟩) 1 1) (hk : k ≤ 1000000) (hbase : base ≤ w1.heap.size)
    (h : ∀ g cap w', w'.ownsRow base 22 1 (.slice (some ⟨g, 0, none⟩) (k + 1) cap) (k + 1) (rowP (putV ps k z) (k + 1)) → w1.grownBy w' v.ownBlock → wpList Tryz.prog ops Q rest (a.put o.dst (.slice (some ⟨g, 0, none⟩) (k + 1) cap)) w') :
    wpList Tryz.prog ops Q (o :: rest) a w1 :=
  wpList_plain hgd fun _ hK => wp_append_ptr s x ho base k ps v z B hown hz hB hs hx hk hbase fun g cap w' h1 h2 => hK _ _ (h g cap w' h1 h2)

set_option maxRecDepth 100000 in
/-- one pointer, and others appended behind it -/
theorem wp_append_tail {o : Oper} {a : Act} {K : Act → World → Prop} {Q : Exit → Act → World → Prop} {w2 : World} (s x : Operand)
    (ho : o.op = .call { callee := .builtin .append, args := #[s, x], argTypes := #[72, 72] })
    (r : Nat) (ps : Nat → Value) (v z : Value) (B : Nat) (hv : PtS w2 v r ps) (hp : ∀ j, ∃ p, ps j = .pointer p) (hB : w2.heap[B]? = some (.cells #[z] 22 (0, 0)))
    (hs : a.eval s = .slice (some ⟨B, 0, none⟩) 1 1) (hx : a.eval x = v) (hr : r ≤ 1000000)
    (h : ∀ g cap w', PtS w' (.slice (some ⟨g, 0, none⟩) (1 + r) cap) (1 + r) (consV z ps) → Below B w2 w' → K (a.put o.dst (.slice (some ⟨g, 0, none⟩) (1 + r) cap)) w') :
    o.wp Tryz.prog a w2 K Q := by
  obtain ⟨i0, hi, hz0, hz1, hz2⟩ := info_parts info22p
  have hlt : B < w2.heap.size := by
    rcases Nat.lt_or_ge B w2.heap.size with hlt | hge
    · exact hlt
    · rw [Array.getElem?_eq_none hge] at hB; cases hB
  have hb := Below.refl B w2
  have hown : w2.ownsRow B 22 1 (.slice (some ⟨B, 0, none⟩) 1 1) 1 [z] := ⟨rfl, .inr ⟨B, 1, #[z], rfl, Nat.le_refl _, hB, Nat.le_refl _, by unfold maxLen; omega, rfl, rfl⟩⟩
  rcases Nat.eq_zero_or_pos r with rfl | hr0
  · have hsrc : Src Tryz.prog i0.size 72 v 0 [] w2 := by
      rcases hv with ⟨a', c', rfl, -⟩ | ⟨b, off, cap', rfl, -⟩
      · cases a' with
        | none => exact Src.ofNil _ Tryz.underlying72 _
        | some ad => exact Src.ofSlice _ Tryz.underlying72 ad 0 c' [] (by simp) (fun j u hj => by simp at hj) (fun u hu => by cases hu)
      · exact Src.ofSlice _ Tryz.underlying72 _ 0 cap' [] (by simp) (fun j u hj => by simp at hj) (fun u hu => by cases hu)
    have hrun := run_append_nothing (P := Tryz.prog) w2 72 72 o.type 22 i0 Tryz.underlying72 hi (some ⟨B, 0, none⟩) 1 1 (Nat.le_refl _) v hsrc
    unfold Oper.wp execOp
    simp only [ho, resolve, invoke, builtin, Sem.run_bind, Sem.run_pure, Result.andThen_ok, List.map_toArray, List.map_cons, List.map_nil, hs, hx, hrun]
    refine h B 1 _ (own_pts (base := B) (e := 22) ?_) hb
    rw [show rowP (consV z ps) (1 + 0) = [z] from (rowP_cons z ps 0).symm]
    exact hown
  · rcases hv with ⟨a', c', -, rfl⟩ | ⟨b, off, cap', rfl, h1, h2, h3, h4⟩
    · omega
    · refine wp_append_lies w2 s x 72 ho B 22 i0 (.pointer none) 1 8 Tryz.underlying72 hi hz0 hz1 hz2 rfl (by decide) _ 1 [z] hs hown ⟨b, off, none⟩ r cap' (rowP ps r) hx (by rw [rowP_len, Nat.mul_one]) ?_ ?_ hr0 ?_ ?_ (Nat.le_of_lt hlt) _ rfl ?_
      · intro j u hj
        have hjr : j < r := by
          have := (List.getElem?_eq_some_iff.1 hj).1
          rwa [rowP_len] at this
        rw [rowP_get hjr] at hj
        injection hj with hj
        subst hj
        rw [Addr.add_mid]
        exact h4 j hjr
      · intro u hu
        unfold rowP at hu
        obtain ⟨j, _, rfl⟩ := List.mem_map.1 hu
        obtain ⟨p, hpj⟩ := hp j
        rw [hpj]; rfl
      · unfold maxLen; omega
      · omega
      · intro g cap w' hown' hgrow _ _
        rw [show [z] ++ rowP ps r = rowP (consV z ps) (1 + r) from rowP_cons z ps r] at hown'
        refine h g cap w' (own_pts hown') (hb.grown hgrow (Nat.le_of_lt hlt) (fun k hk => ?_))
        simp [Value.ownBlock] at hk; omega

/-! ### sums of parts -/
theorem sum_snoc (qs : Nat → Rat) (n : Nat) : sumOf qs (upto (n + 1)) = sumOf qs (upto n) + qs n := by rw [upto_succ, sumOf_snoc]
theorem sum_nil (qs : Nat → Rat) : sumOf qs (upto 0) = 0 := rfl
theorem sum_split (qs : Nat → Rat) (k m : Nat) : sumOf qs (upto (k + m)) = sumOf qs (upto k) + sumOf (fun j => qs (k + j)) (upto m) := by
  induction m with
  | zero => rw [sum_nil, Nat.add_zero, Rat.add_zero]
  | succ m ih => rw [← Nat.add_assoc, sum_snoc, ih, sum_snoc, Rat.add_assoc]
theorem sum_cons (a : Rat) (f : Nat → Rat) (m : Nat) : sumOf (consV a f) (upto (1 + m)) = a + sumOf f (upto m) := by
  rw [sum_split, show (1 : Nat) = 0 + 1 from rfl, sum_snoc, sum_nil, Rat.zero_add]
  congr 1
  apply sumOf_congr
  intro i _
  simp [consV]
theorem sum_back (qs : Nat → Rat) (n : Nat) : sumOf (fun j => qs (n - 1 - j)) (upto n) = sumOf qs (upto n) := by
  induction n with
  | zero => rfl
  | succ n ih =>
    have h1 := sum_split (fun j => qs (n - j)) 1 n
    have h2 : sumOf (fun j => qs (n - j)) (upto 1) = qs n := by
      rw [show (1 : Nat) = 0 + 1 from rfl, sum_snoc, sum_nil, Rat.zero_add]; rfl
    have h3 : sumOf (fun j => qs (n - (1 + j))) (upto n) = sumOf (fun j => qs (n - 1 - j)) (upto n) := by
      apply sumOf_congr
      intro i _
      show qs (n - (1 + i)) = qs (n - 1 - i)
      congr 1; omega
    show sumOf (fun j => qs (n - j)) (upto (n + 1)) = _
    rw [sum_snoc qs n, show n + 1 = 1 + n from Nat.add_comm _ _, h1, h2, h3, ih, Rat.add_comm]
end Go.Proofs.YtemhidlaaommaaaGreatDoor
