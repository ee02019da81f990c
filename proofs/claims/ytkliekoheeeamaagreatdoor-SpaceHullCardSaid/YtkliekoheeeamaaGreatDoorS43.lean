/- Lemmas and contracts, each under its own condition: SpaceHull in plain words: valid arrays, hulls, cutting twice. The walk of SpaceHull. The walk of SpaceHull: cutting twice. SpaceHull: what is known while one cell's box is cut. -/
import Derived.Test.YtkliekoheeeamaaGreatDoorFromR
import Derived.Test.YtkliekoheeeamaaGreatDoorIntB
import Derived.Test.YtkliekoheeeamaaGreatDoorS22
import Derived.Test.YtkliekoheeeamaaGreatDoorS27
import Derived.Test.YtkliekoheeeamaaGreatDoorS30
import Derived.Test.YtkliekoheeeamaaGreatDoorS42
/- SpaceHull in plain words: valid arrays, hulls, cutting twice. -/
namespace Go.Proofs.YtkliekoheeeamaaGreatDoor

abbrev AscC (l : List CellT) : Prop := l.Pairwise fun x y => cmpI x.co y.co = -1
theorem cellsL_some {d : List DimT} {a : List AttrT} : ∀ {b : CellT} {l : List CellT}, cellsL d a (some b) l = 0 ↔ (∀ c ∈ l, cellE d a c = 0) ∧ AscC (b :: l)
 | b, [] => by simp [cellsL]
 | b, c :: r => by
  have ih := cellsL_some (d := d) (a := a) (b := c) (l := r)
  rw [cellsL]
  constructor
  ·intro h
   split at h
   ·rename_i h1; exact absurd h h1
   ·rename_i h1
    split at h
    ·cases h
    ·rename_i h2
     split at h
     ·cases h
     ·rename_i h3
      obtain ⟨i1, i2⟩ := ih.1 h
      have hbc : cmpI b.co c.co = -1 := by
       rcases cmpI_cases b.co c.co with e | e | e
       ·exact e
       ·exact absurd e h2
       ·exact absurd e h3
      refine ⟨fun z hz => ?_, List.pairwise_cons.2 ⟨fun z hz => ?_, i2⟩⟩
      ·rcases List.mem_cons.1 hz with rfl | hz
       ·exact Classical.not_not.1 h1
       ·exact i1 z hz
      ·rcases List.mem_cons.1 hz with rfl | hz
       ·exact hbc
       ·exact cmpI_trans hbc ((List.pairwise_cons.1 i2).1 z hz)
  ·rintro ⟨h1, h2⟩
   have hp := List.pairwise_cons.1 h2
   have hbc := hp.1 c (by simp)
   rw [if_neg (by rw [h1 c (by simp)]; exact fun h => h rfl), if_neg (by rw [hbc]; decide), if_neg (by rw [hbc]; decide)]
   exact ih.2 ⟨fun z hz => h1 z (by simp [hz]), hp.2⟩
theorem cellsL_none {d : List DimT} {a : List AttrT} {l : List CellT} : cellsL d a none l = 0 ↔ (∀ c ∈ l, cellE d a c = 0) ∧ AscC l := by
 cases l with
 | nil => simp [cellsL]
 | cons c r =>
  rw [cellsL]
  constructor
  ·intro h
   split at h
   ·rename_i h1; exact absurd h h1
   ·rename_i h1
    obtain ⟨i1, i2⟩ := cellsL_some.1 h
    refine ⟨fun z hz => ?_, i2⟩
    rcases List.mem_cons.1 hz with rfl | hz
    ·exact Classical.not_not.1 h1
    ·exact i1 z hz
  ·rintro ⟨h1, h2⟩
   rw [if_neg (by rw [h1 c (by simp)]; exact fun h => h rfl)]
   exact cellsL_some.2 ⟨fun z hz => h1 z (by simp [hz]), h2⟩
theorem checkE_zero {x : ArrT} : checkE x = 0 ↔ schemaE x.dims x.attrs = 0 ∧ x.cells.length ≤ 4096 ∧ (∀ c ∈ x.cells, cellE x.dims x.attrs c = 0) ∧ AscC x.cells := by
 constructor
 ·intro h
  obtain ⟨h1, h2, h3⟩ := check_parts h
  exact ⟨h1, h2, cellsL_none.1 h3⟩
 ·rintro ⟨h1, h2, h3⟩
  unfold checkE
  rw [if_neg (by rw [h1]; exact fun h => h rfl), if_neg (by omega)]
  exact cellsL_none.2 h3
theorem check_filter {x : ArrT} (h : checkE x = 0) (p : CellT → Bool) : checkE ⟨x.dims, x.attrs, x.cells.filter p⟩ = 0 := by
 obtain ⟨h1, h2, h3, h4⟩ := checkE_zero.1 h
 refine checkE_zero.2 ⟨h1, Nat.le_trans (List.length_filter_le _ _) h2, fun c hc => h3 c (List.mem_filter.1 hc).1, ?_⟩
 exact List.Pairwise.filter p h4
theorem cutE_cases {x : ArrT} (h : checkE x = 0) (lo hi : List Int) : cutE x lo hi = 0 ∧ formedB lo hi = true ∧ lo.length = x.dims.length ∨ cutE x lo hi = 13 := by
 unfold cutE
 rw [if_neg (by rw [h]; exact fun h => h rfl)]
 split
 ·exact .inr rfl
 ·rename_i h2
  refine .inl ⟨rfl, ?_, Classical.byContradiction fun h3 => h2 (.inr h3)⟩
  cases hf : formedB lo hi with
  | true => rfl
  | false => exact absurd (.inl hf) h2
theorem cutE_bad {x : ArrT} (h : checkE x ≠ 0) (lo hi : List Int) : cutE x lo hi = 2 := by
 unfold cutE
 rw [if_pos h]
theorem cutQ_ok {x : ArrT} {lo hi : List Int} (h : cutE x lo hi = 0) : cutQ x lo hi = ⟨x.dims, x.attrs, cutL lo hi x.cells⟩ := by
 unfold cutQ
 rw [if_neg (by rw [h]; exact fun h => h rfl)]
theorem cutQ_check {x : ArrT} {lo hi : List Int} (h : checkE x = 0) (h2 : cutE x lo hi = 0) : checkE (cutQ x lo hi) = 0 := by
 rw [cutQ_ok h2]
 exact check_filter h _
theorem formed_iff {lo hi : List Int} : formedB lo hi = true ↔ lo.length = hi.length ∧ 0 < lo.length ∧ lo.length ≤ 4 := by
 unfold formedB
 simp only [Bool.and_eq_true, decide_eq_true_eq]
 omega
theorem cutE_ok {x : ArrT} {lo hi : List Int} (h : checkE x = 0) (h1 : lo.length = x.dims.length) (h2 : hi.length = x.dims.length) : cutE x lo hi = 0 := by
 have hd := check_dims h
 unfold cutE
 rw [if_neg (by rw [h]; exact fun h => h rfl), if_neg]
 rintro (h3 | h3)
 ·rw [formed_iff.2 ⟨by omega, by omega, by omega⟩] at h3
  cases h3
 ·exact h3 h1
theorem hasB_iff {lo hi c : List Int} (h1 : lo.length = c.length) (h2 : hi.length = c.length) (h0 : 0 < c.length) (h4 : c.length ≤ 4) : hasB lo hi c = true ↔ ∀ (i : Nat) (a b x : Int), lo[i]? = some a → hi[i]? = some b → c[i]? = some x → a ≤ x ∧ upB x b = true := by
 unfold hasB
 rw [formed_iff.2 ⟨by omega, by omega, by omega⟩, decide_eq_true h1.symm, Bool.true_and, Bool.true_and]
 exact hasL_iff h1 h2
theorem up_iff (x h : Int) : upB x h = true ↔ x ≤ h ∨ 1073741825 ≤ h := by
 unfold upB
 rw [decide_eq_true_eq]
/-- coordinates of valid cells end below Open -/
theorem cell_coord {x : ArrT} (h : checkE x = 0) {c : CellT} (hc : c ∈ x.cells) {i : Nat} {y : Int} (hy : c.co[i]? = some y) : y ≤ 1073741824 := by
 obtain ⟨h1, -, h3, -⟩ := checkE_zero.1 h
 have he := h3 c hc
 have hl := check_len h c hc
 unfold cellE at he
 split at he
 ·cases he
 ·split at he
  ·cases he
  ·rename_i h6
   have h7 : ofL x.dims c.co = true := by
    cases ho : ofL x.dims c.co with
    | true => rfl
    | false => exact absurd ho h6
   have hlt := (List.getElem?_eq_some_iff.1 hy).1
   obtain ⟨d, hd⟩ : ∃ d, x.dims[i]? = some d := ⟨_, List.getElem?_eq_getElem (by omega)⟩
   have h8 := ofL_good h7 hd hy
   have h9 := (dims_good (schema_dims h1)).2.2 d (List.mem_of_getElem? hd)
   have := h9.last
   omega
theorem hullL_mono {l : List CellT} {n : Nat} (hl : ∀ c ∈ l, c.co.length = n) : ∀ {m : List Int × List Int}, m.1.length = n → m.2.length = n →
  (∀ (i : Nat) (u v : Int), m.1[i]? = some u → (hullL m l).1[i]? = some v → v ≤ u) ∧ (∀ (i : Nat) (u v : Int), m.2[i]? = some u → (hullL m l).2[i]? = some v → u ≤ v) ∧
  (∀ c ∈ l, ∀ (i : Nat) (y a b : Int), c.co[i]? = some y → (hullL m l).1[i]? = some a → (hullL m l).2[i]? = some b → a ≤ y ∧ y ≤ b) := by
 induction l with
 | nil =>
  intro m h1 h2
  refine ⟨fun i u v hu hv => ?_, fun i u v hu hv => ?_, fun c hc => by cases hc⟩
  ·simp only [hullL, List.foldl_nil] at hv
   rw [hu] at hv; cases hv; omega
  ·simp only [hullL, List.foldl_nil] at hv
   rw [hu] at hv; cases hv; omega
 | cons c l ih =>
  intro m h1 h2
  have hc := hl c (by simp)
  have f1 : (hullF m c).1.length = n := by simp [hullF, h1, hc]
  have f2 : (hullF m c).2.length = n := by simp [hullF, h2, hc]
  obtain ⟨k1, k2, k3⟩ := ih (fun c hc => hl c (by simp [hc])) f1 f2
  have e : hullL m (c :: l) = hullL (hullF m c) l := rfl
  rw [e]
  have gy : ∀ i, i < n → ∃ y, c.co[i]? = some y := fun i hi => ⟨_, List.getElem?_eq_getElem (by omega)⟩
  have g1 : ∀ (i : Nat) (u y : Int), m.1[i]? = some u → c.co[i]? = some y → (hullF m c).1[i]? = some (min u y) := fun i u y hu hy => zip_get hu hy
  have g2 : ∀ (i : Nat) (u y : Int), m.2[i]? = some u → c.co[i]? = some y → (hullF m c).2[i]? = some (max u y) := fun i u y hu hy => zip_get hu hy
  refine ⟨fun i u v hu hv => ?_, fun i u v hu hv => ?_, fun z hz i y a b hy ha hb => ?_⟩
  ·obtain ⟨y, hy⟩ := gy i (by have := (List.getElem?_eq_some_iff.1 hu).1; omega)
   have := k1 i _ v (g1 i u y hu hy) hv
   omega
  ·obtain ⟨y, hy⟩ := gy i (by have := (List.getElem?_eq_some_iff.1 hu).1; omega)
   have := k2 i _ v (g2 i u y hu hy) hv
   omega
  ·rcases List.mem_cons.1 hz with rfl | hz
   ·have hlt := (List.getElem?_eq_some_iff.1 hy).1
    obtain ⟨u1, hu1⟩ : ∃ u, m.1[i]? = some u := ⟨_, List.getElem?_eq_getElem (by omega)⟩
    obtain ⟨u2, hu2⟩ : ∃ u, m.2[i]? = some u := ⟨_, List.getElem?_eq_getElem (by omega)⟩
    have p1 := k1 i _ a (g1 i u1 y hu1 hy) ha
    have p2 := k2 i _ b (g2 i u2 y hu2 hy) hb
    omega
   ·exact k3 z hz i y a b hy ha hb
theorem hull_some {x : ArrT} (h : checkE x = 0) (h0 : 0 < x.cells.length) : ∃ m, hullQ x = some m ∧ cutE x m.1 m.2 = 0 ∧ cutQ x m.1 m.2 = x := by
 unfold hullQ
 rw [if_neg (fun h' => h' h)]
 have hd := check_dims h
 have hl := check_len h
 have hcl : ∀ c l, x.cells = c :: l → ∃ m, some (hullL (c.co, c.co) (c :: l)) = some m ∧ cutE x m.1 m.2 = 0 ∧ cutQ x m.1 m.2 = x := fun c l hc => by
  have hlc : ∀ z ∈ c :: l, z.co.length = x.dims.length := fun z hz => hl z (by rw [hc]; exact hz)
  have l1 := hlc c (by simp)
  have hlen := hullL_len (m := (c.co, c.co)) l1 l1 hlc
  obtain ⟨-, -, k3⟩ := hullL_mono hlc (m := (c.co, c.co)) l1 l1
  have hok := cutE_ok h hlen.1 hlen.2
  refine ⟨_, rfl, hok, ?_⟩
  rw [cutQ_ok hok]
  have hf : cutL (hullL (c.co, c.co) (c :: l)).1 (hullL (c.co, c.co) (c :: l)).2 x.cells = x.cells := by
   unfold cutL
   rw [List.filter_eq_self]
   intro z hz
   have lz := hl z hz
   rw [hc] at hz
   refine (hasB_iff (by omega) (by omega) (by omega) (by omega)).2 fun i a b y ha hb hy => ?_
   have := k3 z hz i y a b hy ha hb
   exact ⟨this.1, (up_iff _ _).2 (.inl this.2)⟩
  rw [hf]
 cases hc : x.cells with
 | nil => rw [hc] at h0; exact absurd h0 (Nat.lt_irrefl 0)
 | cons c l => exact hcl c l hc
theorem hull_nil {x : ArrT} (h : checkE x ≠ 0 ∨ x.cells.length = 0) : hullQ x = none := by
 unfold hullQ
 split
 ·rfl
 ·rename_i h2
  rcases h with h | h
  ·exact absurd h h2
  ·rw [List.length_eq_zero_iff.1 h]
theorem has_self {c z : List Int} (h : z.length = c.length) (h0 : 0 < c.length) (h4 : c.length ≤ 4) (hm : ∀ y ∈ c, y ≤ 1073741824) : hasB c c z = true ↔ z = c := by
 rw [hasB_iff h.symm h.symm (by omega) (by omega)]
 constructor
 ·intro H
  apply List.ext_getElem?
  intro i
  by_cases hi : i < c.length
  ·have ec := List.getElem?_eq_getElem hi
   have ez := List.getElem?_eq_getElem (show i < z.length by omega)
   have h1 := H i _ _ _ ec ec ez
   have h2 := hm _ (List.mem_of_getElem? ec)
   have h3 := (up_iff _ _).1 h1.2
   rw [ec, ez]
   congr 1
   omega
  ·rw [List.getElem?_eq_none (by omega), List.getElem?_eq_none (by omega)]
 ·rintro rfl i a b x ha hb hx
  rw [ha] at hb hx
  cases hb
  cases hx
  exact ⟨by omega, (up_iff _ _).2 (.inl (by omega))⟩
theorem filter_one {l : List CellT} (h : AscC l) {c : CellT} (hc : c ∈ l) (p : CellT → Bool) (hp : ∀ z ∈ l, p z = true ↔ z.co = c.co) : l.filter p = [c] := by
 induction l with
 | nil => cases hc
 | cons z l ih =>
  have hq := List.pairwise_cons.1 h
  rw [List.filter_cons]
  rcases List.mem_cons.1 hc with rfl | hc
  ·rw [if_pos ((hp c (by simp)).2 rfl)]
   congr 1
   rw [List.filter_eq_nil_iff]
   intro z hz hpz
   have := hq.1 z hz
   rw [(hp z (by simp [hz])).1 hpz, cmpI_self] at this
   cases this
  ·rw [if_neg]
   ·exact ih hq.2 hc fun z hz => hp z (by simp [hz])
   ·intro hpz
    have := hq.1 c hc
    rw [(hp z (by simp)).1 hpz, cmpI_self] at this
    cases this
theorem cut_one {x : ArrT} (h : checkE x = 0) {c : CellT} (hc : c ∈ x.cells) : cutE x c.co c.co = 0 ∧ (cutQ x c.co c.co).cells = [c] := by
 have hl := check_len h
 have hd := check_dims h
 have l1 := hl c hc
 have hok := cutE_ok h l1 l1
 refine ⟨hok, ?_⟩
 rw [cutQ_ok hok]
 refine filter_one (checkE_zero.1 h).2.2.2 hc _ fun z hz => ?_
 have lz := hl z hz
 exact has_self (by omega) (by omega) (by omega) fun y hy => by
  obtain ⟨i, hi⟩ := List.getElem?_of_mem hy
  exact cell_coord h hc hi
theorem interL_some : ∀ {lo hi al ah bl bh : List Int} {n : Nat} {r : List Int × List Int}, al.length = n → ah.length = n → bl.length = n → bh.length = n → lo.length = hi.length → interL lo hi al ah bl bh = some r →
  ∃ cl ch, r = (lo ++ cl, hi ++ ch) ∧ cl.length = n ∧ ch.length = n ∧ (∀ (i : Nat) (a b c e : Int), al[i]? = some a → ah[i]? = some c → bl[i]? = some b → bh[i]? = some e → cl[i]? = some (max a b) ∧ ch[i]? = some (min3 c e)) := by
 intro lo hi al ah bl bh n r h1 h2 h3 h4 h5 h
 induction n generalizing lo hi al ah bl bh with
 | zero =>
  obtain rfl := List.length_eq_zero_iff.1 h1
  rw [interL] at h
  ·cases h
   exact ⟨[], [], by simp, rfl, rfl, fun i a b c e ha => by simp at ha⟩
  ·intro _ _ _ _ _ _ _ _ e; cases e
 | succ n ih =>
  obtain ⟨a, al, rfl⟩ := List.exists_cons_of_length_eq_add_one h1
  obtain ⟨c, ah, rfl⟩ := List.exists_cons_of_length_eq_add_one h2
  obtain ⟨b, bl, rfl⟩ := List.exists_cons_of_length_eq_add_one h3
  obtain ⟨e, bh, rfl⟩ := List.exists_cons_of_length_eq_add_one h4
  rw [interL] at h
  split at h
  ·obtain ⟨cl, ch, hr, l1, l2, hx⟩ := ih (by simpa using h1) (by simpa using h2) (by simpa using h3) (by simpa using h4) (by simp [h5]) h
   refine ⟨max a b :: cl, min3 c e :: ch, by rw [hr]; simp, by simp [l1], by simp [l2], fun i a' b' c' e' ha hb hc he => ?_⟩
   cases i with
   | zero =>
    simp at ha hb hc he
    subst ha hb hc he
    exact ⟨rfl, rfl⟩
   | succ i => exact hx i a' b' c' e' (by simpa using ha) (by simpa using hb) (by simpa using hc) (by simpa using he)
  ·cases h
theorem interL_none : ∀ {lo hi al ah bl bh : List Int} {n : Nat}, al.length = n → ah.length = n → bl.length = n → bh.length = n → interL lo hi al ah bl bh = none →
  ∃ (i : Nat) (a b c e : Int), al[i]? = some a ∧ ah[i]? = some c ∧ bl[i]? = some b ∧ bh[i]? = some e ∧ upB (max a b) (min3 c e) = false := by
 intro lo hi al ah bl bh n h1 h2 h3 h4 h
 induction n generalizing lo hi al ah bl bh with
 | zero =>
  obtain rfl := List.length_eq_zero_iff.1 h1
  rw [interL] at h
  ·cases h
  ·intro _ _ _ _ _ _ _ _ e; cases e
 | succ n ih =>
  obtain ⟨a, al, rfl⟩ := List.exists_cons_of_length_eq_add_one h1
  obtain ⟨c, ah, rfl⟩ := List.exists_cons_of_length_eq_add_one h2
  obtain ⟨b, bl, rfl⟩ := List.exists_cons_of_length_eq_add_one h3
  obtain ⟨e, bh, rfl⟩ := List.exists_cons_of_length_eq_add_one h4
  rw [interL] at h
  split at h
  ·obtain ⟨i, a', b', c', e', k1, k2, k3, k4, k5⟩ := ih (by simpa using h1) (by simpa using h2) (by simpa using h3) (by simpa using h4) h
   exact ⟨i + 1, a', b', c', e', by simpa using k1, by simpa using k2, by simpa using k3, by simpa using k4, k5⟩
  ·rename_i hn
   refine ⟨0, a, b, c, e, rfl, rfl, rfl, rfl, ?_⟩
   cases hu : upB (max a b) (min3 c e) with
   | false => rfl
   | true => exact absurd hu hn
theorem min3_up (x c e : Int) : upB x (min3 c e) = true ↔ upB x c = true ∧ upB x e = true := by
 rw [up_iff, up_iff, up_iff]
 unfold min3
 split <;> split <;> omega
/-- what cutting twice leaves -/
theorem cut_twice {x : ArrT} {al ah bl bh : List Int} (h : checkE x = 0) (h1 : cutE x al ah = 0) (h2 : cutE (cutQ x al ah) bl bh = 0) :
  (interB al ah bl bh = none → (cutQ (cutQ x al ah) bl bh).cells = []) ∧ (∀ m, interB al ah bl bh = some m → cutE x m.1 m.2 = 0 ∧ cutQ x m.1 m.2 = cutQ (cutQ x al ah) bl bh) := by
 have hd := check_dims h
 have hl := check_len h
 have hq := cutQ_ok h1
 have hck := cutQ_check h h1
 obtain ⟨-, f1, l1⟩ : cutE x al ah = 0 ∧ formedB al ah = true ∧ al.length = x.dims.length := by
  rcases cutE_cases h al ah with k | k
  ·exact k
  ·rw [h1] at k; cases k
 obtain ⟨-, f2, l2⟩ : cutE (cutQ x al ah) bl bh = 0 ∧ formedB bl bh = true ∧ bl.length = (cutQ x al ah).dims.length := by
  rcases cutE_cases hck bl bh with k | k
  ·exact k
  ·rw [h2] at k; cases k
 rw [cutQ_ok h2]
 rw [hq] at l2 ⊢
 simp only at l2 ⊢
 have g1 := formed_iff.1 f1
 have g2 := formed_iff.1 f2
 have ei : interB al ah bl bh = interL [] [] al ah bl bh := by
  unfold interB
  rw [if_pos ⟨f1, f2, by omega⟩]
 have hin : ∀ c ∈ cutL bl bh (cutL al ah x.cells), c ∈ x.cells ∧ hasB al ah c.co = true ∧ hasB bl bh c.co = true := fun c hc => by
  have k1 := List.mem_filter.1 hc
  have k2 := List.mem_filter.1 k1.1
  exact ⟨k2.1, k2.2, k1.2⟩
 refine ⟨fun hn => ?_, fun m hm => ?_⟩
 ·rw [ei] at hn
  obtain ⟨i, a, b, c, e, k1, k2, k3, k4, k5⟩ := interL_none (n := x.dims.length) (by omega) (by omega) (by omega) (by omega) hn
  rw [List.eq_nil_iff_forall_not_mem]
  intro z hz
  obtain ⟨z1, z2, z3⟩ := hin z hz
  have lz := hl z z1
  have hlt := (List.getElem?_eq_some_iff.1 k1).1
  obtain ⟨y, hy⟩ : ∃ y, z.co[i]? = some y := ⟨_, List.getElem?_eq_getElem (by omega)⟩
  have p1 := (hasB_iff (by omega) (by omega) (by omega) (by omega)).1 z2 i a c y k1 k2 hy
  have p2 := (hasB_iff (by omega) (by omega) (by omega) (by omega)).1 z3 i b e y k3 k4 hy
  have p3 := (up_iff _ _).1 ((min3_up y c e).2 ⟨p1.2, p2.2⟩)
  have p4 : ¬ (max a b ≤ min3 c e ∨ 1073741825 ≤ min3 c e) := fun hc => by
   rw [(up_iff _ _).2 hc] at k5
   cases k5
  omega
 ·rw [ei] at hm
  obtain ⟨cl, ch, hr, k1, k2, k3⟩ := interL_some (n := x.dims.length) (by omega) (by omega) (by omega) (by omega) rfl hm
  rw [List.nil_append, List.nil_append] at hr
  subst hr
  have hok := cutE_ok (x := x) h k1 k2
  refine ⟨hok, ?_⟩
  rw [cutQ_ok hok]
  congr 1
  unfold cutL
  rw [List.filter_filter]
  refine List.filter_congr fun z hz => ?_
  have lz := hl z hz
  rw [Bool.eq_iff_iff, Bool.and_eq_true, hasB_iff (by omega) (by omega) (by omega) (by omega), hasB_iff (by omega) (by omega) (by omega) (by omega), hasB_iff (by omega) (by omega) (by omega) (by omega)]
  have ga : ∀ i, i < x.dims.length → ∃ a b c e, al[i]? = some a ∧ ah[i]? = some c ∧ bl[i]? = some b ∧ bh[i]? = some e := fun i hi =>
   ⟨_, _, _, _, List.getElem?_eq_getElem (by omega), List.getElem?_eq_getElem (by omega), List.getElem?_eq_getElem (by omega), List.getElem?_eq_getElem (by omega)⟩
  constructor
  ·intro H
   refine ⟨fun i b' e' y hb he hy => ?_, fun i a' c' y ha hc hy => ?_⟩
   ·obtain ⟨a, b, c, e, g1, g2, g3, g4⟩ := ga i (by have := (List.getElem?_eq_some_iff.1 hb).1; omega)
    have := k3 i a b c e g1 g2 g3 g4
    have p := H i _ _ y this.1 this.2 hy
    rw [min3_up] at p
    rw [hb] at g3; rw [he] at g4
    cases g3; cases g4
    exact ⟨by omega, p.2.2⟩
   ·obtain ⟨a, b, c, e, g1, g2, g3, g4⟩ := ga i (by have := (List.getElem?_eq_some_iff.1 ha).1; omega)
    have := k3 i a b c e g1 g2 g3 g4
    have p := H i _ _ y this.1 this.2 hy
    rw [min3_up] at p
    rw [ha] at g1; rw [hc] at g2
    cases g1; cases g2
    exact ⟨by omega, p.2.1⟩
  ·rintro ⟨H2, H1⟩ i u v y hu hv hy
   obtain ⟨a, b, c, e, g1, g2, g3, g4⟩ := ga i (by have := (List.getElem?_eq_some_iff.1 hu).1; omega)
   have := k3 i a b c e g1 g2 g3 g4
   rw [this.1] at hu; rw [this.2] at hv
   cases hu; cases hv
   have p1 := H1 i a c y g1 g2 hy
   have p2 := H2 i b e y g3 g4 hy
   exact ⟨by omega, (min3_up _ _ _).2 ⟨p1.2, p2.2⟩⟩
theorem sameE_self {x : ArrT} (h : checkE x = 0) : sameE x x = true := by
 unfold sameE eqA
 simp [h]
end Go.Proofs.YtkliekoheeeamaaGreatDoor
/- The walk of SpaceHull. -/
namespace Go.Proofs.YtkliekoheeeamaaGreatDoor
open Go.RowKit

theorem hul3_at (w : World) (v1 v2 v3 a1 a2 b1 b2 : Value) : ∃ W1, W1 = ((w.alloc (.cells #[v1, v2, v3] 52)).alloc (.cells #[a1, a2] 26)).alloc (.cells #[b1, b2] 26) ∧ Below w.heap.size w W1 ∧
  ∀ w', Below W1.heap.size W1 w' → (w'.cell? ⟨w.heap.size, 0, none⟩ = some v1 ∧ w'.cell? ⟨w.heap.size, 1, none⟩ = some v2 ∧ w'.cell? ⟨w.heap.size, 2, none⟩ = some v3) ∧ (w'.cell? ⟨w.heap.size + 1, 0, none⟩ = some a1 ∧ w'.cell? ⟨w.heap.size + 1, 1, none⟩ = some a2) ∧ w'.cell? ⟨w.heap.size + 1 + 1, 0, none⟩ = some b1 ∧ w'.cell? ⟨w.heap.size + 1 + 1, 1, none⟩ = some b2 := by
 obtain ⟨W2, hW2, hb2, hx2⟩ := arg_at w v1 v2 v3 a1 a2
 obtain ⟨W3, hW3, hb3, hx3⟩ := boxm_at' W2 b1 b2
 refine ⟨W3, by rw [hW3, hW2], below_keep hb2 hb3, fun w' hb => ?_⟩
 have h1 := hx2 w' (below_keep hb3 hb)
 have h2 := hx3 w' hb
 rw [show W2.heap.size = w.heap.size + 1 + 1 by rw [hW2]; simp] at h2
 exact ⟨h1.1, h1.2, h2⟩
set_option maxHeartbeats 16000000 in
set_option maxRecDepth 100000 in
/-- the coordinates of one dimension too many: nothing is asked -/
theorem hull_skip (x : ArrT) (al ah bl bh : List Int) (vd va vc u1 u2 u3 u4 : Value) (w : World) (hm : Ml w) (hx : ArrR w vd va vc x) (h1 : Ints w u1 al) (h2 : Ints w u2 ah) (h3 : Ints w u3 bl) (h4 : Ints w u4 bh) (h : 10 < al.length ∨ 10 < ah.length ∨ 10 < bl.length ∨ 10 < bh.length) :
  Calls Tryz.prog 6 #[.agg #[vd, va, vc], .agg #[u1, u2], .agg #[u3, u4]] w (RetV' (.bool true) w) := by
 have CW := Lib.hid (fun w1 (hb : Below w.heap.size w w1) => works_any w1 (hm.later hb))
 have CFW := Lib.hid (fun w1 (hb : Below w.heap.size w w1) => few_any x 60 vd va vc w1 (hx.later hb))
 obtain ⟨p1, k1, rfl, -⟩ := hx.dims.shape
 obtain ⟨p2, k2, rfl, -⟩ := hx.attrs.shape
 obtain ⟨p3, k3, rfl, -⟩ := hx.cells.shape
 obtain ⟨p4, k4, rfl, -⟩ := h1.shape
 obtain ⟨p5, k5, rfl, -⟩ := h2.shape
 obtain ⟨p6, k6, rfl, -⟩ := h3.shape
 obtain ⟨p7, k7, rfl, -⟩ := h4.shape
 obtain ⟨W1, hW1, hb1, hbx⟩ := hul3_at w (.slice p1 x.dims.length k1) (.slice p2 x.attrs.length k2) (.slice p3 x.cells.length k3) (.slice p4 al.length k4) (.slice p5 ah.length k5) (.slice p6 bl.length k6) (.slice p7 bh.length k7)
 have HB1 := Lib.hid hb1
 have HBX := Lib.hid hbx
 obtain ⟨⟨z0, z1, z2⟩, ⟨z3, z4⟩, z5, z6⟩ := hbx W1 (Below.refl _ _)
 have cs : (10 < al.length) ∨ (¬ 10 < al.length ∧ 10 < ah.length) ∨ (¬ 10 < al.length ∧ ¬ 10 < ah.length ∧ 10 < bl.length) ∨ (¬ 10 < al.length ∧ ¬ 10 < ah.length ∧ ¬ 10 < bl.length ∧ 10 < bh.length) := by omega
 clear hm hx h1 h2 h3 h4 h hb1 hbx
 go_enter Tryz.func6, Tryz.ntmps6
 go_upto_region 1 with (fail)
 rw [← hW1]
 clear hW1
 rcases cs with s | ⟨s, s'⟩ | ⟨s, s', s''⟩ | ⟨s, s', s'', s'''⟩
 ·have s1 : decide ((10 : Int) < al.length) = true := decide_eq_true (by omega)
  clear s
  go_wp2_with fail
  refine (CFW.out _ HB1.out).mono ?_
  rintro e w2 ⟨b, rfl, -, hb⟩
  have HB2 := Lib.hid (below_keep HB1.out hb)
  obtain ⟨⟨d0, d1, d2⟩, ⟨d3, d4⟩, d5, d6⟩ := HBX.out w2 hb
  clear hb z0 z1 z2 z3 z4 z5 z6
  cases b <;>
  ·go_wp2_with fail
   refine (CW.out _ HB2.out).mono ?_
   rintro e z1 ⟨rfl, hb⟩
   have HBE := Lib.hid (below_keep HB2.out hb)
   clear hb CW
   go_wp2
   go_ret
   exact ⟨rfl, HBE.out⟩
 ·have s1 : decide ((10 : Int) < al.length) = false := decide_eq_false (by omega)
  have s2 : decide ((10 : Int) < ah.length) = true := decide_eq_true (by omega)
  clear s s'
  go_wp2_with fail
  refine (CFW.out _ HB1.out).mono ?_
  rintro e w2 ⟨b, rfl, -, hb⟩
  have HB2 := Lib.hid (below_keep HB1.out hb)
  obtain ⟨⟨d0, d1, d2⟩, ⟨d3, d4⟩, d5, d6⟩ := HBX.out w2 hb
  clear hb z0 z1 z2 z3 z4 z5 z6
  cases b <;>
  ·go_wp2_with fail
   refine (CW.out _ HB2.out).mono ?_
   rintro e z1 ⟨rfl, hb⟩
   have HBE := Lib.hid (below_keep HB2.out hb)
   clear hb CW
   go_wp2
   go_ret
   exact ⟨rfl, HBE.out⟩
 ·have s1 : decide ((10 : Int) < al.length) = false := decide_eq_false (by omega)
  have s2 : decide ((10 : Int) < ah.length) = false := decide_eq_false (by omega)
  have s3 : decide ((10 : Int) < bl.length) = true := decide_eq_true (by omega)
  clear s s' s''
  go_wp2_with fail
  refine (CFW.out _ HB1.out).mono ?_
  rintro e w2 ⟨b, rfl, -, hb⟩
  have HB2 := Lib.hid (below_keep HB1.out hb)
  obtain ⟨⟨d0, d1, d2⟩, ⟨d3, d4⟩, d5, d6⟩ := HBX.out w2 hb
  clear hb z0 z1 z2 z3 z4 z5 z6
  cases b <;>
  ·go_wp2_with fail
   refine (CW.out _ HB2.out).mono ?_
   rintro e z1 ⟨rfl, hb⟩
   have HBE := Lib.hid (below_keep HB2.out hb)
   clear hb CW
   go_wp2
   go_ret
   exact ⟨rfl, HBE.out⟩
 ·have s1 : decide ((10 : Int) < al.length) = false := decide_eq_false (by omega)
  have s2 : decide ((10 : Int) < ah.length) = false := decide_eq_false (by omega)
  have s3 : decide ((10 : Int) < bl.length) = false := decide_eq_false (by omega)
  have s4 : decide ((10 : Int) < bh.length) = true := decide_eq_true (by omega)
  clear s s' s'' s'''
  go_wp2_with fail
  refine (CFW.out _ HB1.out).mono ?_
  rintro e w2 ⟨b, rfl, -, hb⟩
  have HB2 := Lib.hid (below_keep HB1.out hb)
  obtain ⟨⟨d0, d1, d2⟩, ⟨d3, d4⟩, d5, d6⟩ := HBX.out w2 hb
  clear hb z0 z1 z2 z3 z4 z5 z6
  cases b <;>
  ·go_wp2_with fail
   refine (CW.out _ HB2.out).mono ?_
   rintro e z1 ⟨rfl, hb⟩
   have HBE := Lib.hid (below_keep HB2.out hb)
   clear hb CW
   go_wp2
   go_ret
   exact ⟨rfl, HBE.out⟩

theorem check_self (x : ArrT) (vd va vc : Value) (w : World) (hx : ArrR w vd va vc x) (hs : StrD x.dims) (hsa : StrA x.attrs) (E : Int) (h : checkE x = E) :
  Calls Tryz.prog 19 #[.agg #[vd, va, vc]] w (RetV' (.int .i64 E) w) := h ▸ checkA_any x vd va vc w hx hs hsa
theorem cut_is (x Q : ArrT) (E : Int) (lo hi : List Int) (vd va vc vl vh : Value) (w : World) (hx : ArrR w vd va vc x) (hlo : Ints w vl lo) (hhi : Ints w vh hi) (hs : StrD x.dims) (hsa : StrA x.attrs) (hQ : cutQ x lo hi = Q) (hE : cutE x lo hi = E) :
  Calls Tryz.prog 20 #[.agg #[vd, va, vc], .agg #[vl, vh]] w (RetAe Q E w) := by
 subst hQ hE
 exact cut_any x lo hi vd va vc vl vh w hx hlo hhi hs hsa
theorem same_self (x : ArrT) (vd va vc ud ua uc : Value) (w : World) (hx : ArrR w vd va vc x) (hy : ArrR w ud ua uc x) (sxd : StrD x.dims) (sxa : StrA x.attrs) (h : checkE x = 0) :
  Calls Tryz.prog 22 #[.agg #[vd, va, vc], .agg #[ud, ua, uc]] w (RetV' (.bool true) w) := by
 have := same_any x x vd va vc ud ua uc w hx hy sxd sxa sxd sxa
 rwa [sameE_self h] at this
end Go.Proofs.YtkliekoheeeamaaGreatDoor
/- The walk of SpaceHull: cutting twice. -/
namespace Go.Proofs.YtkliekoheeeamaaGreatDoor
open Go.RowKit

/-- what the boxes of the arguments hold, now and later -/
def HulB (B : Nat) (W1 : World) (v1 v2 v3 a1 a2 b1 b2 : Value) : Prop := ∀ w', Below W1.heap.size W1 w' → (w'.cell? ⟨B, 0, none⟩ = some v1 ∧ w'.cell? ⟨B, 1, none⟩ = some v2 ∧ w'.cell? ⟨B, 2, none⟩ = some v3) ∧ (w'.cell? ⟨B + 1, 0, none⟩ = some a1 ∧ w'.cell? ⟨B + 1, 1, none⟩ = some a2) ∧ w'.cell? ⟨B + 1 + 1, 0, none⟩ = some b1 ∧ w'.cell? ⟨B + 1 + 1, 1, none⟩ = some b2
noncomputable def tail20 : Code := (Tryz.f6.body.bind (fromReg 20)).getD .skip
theorem inter_no (va1 va2 vb1 vb2 : Value) (al ah bl bh : List Int) (w : World) (h1 : Ints w va1 al) (h2 : Ints w va2 ah) (h3 : Ints w vb1 bl) (h4 : Ints w vb2 bh) (h : interB al ah bl bh = none) :
  Calls Tryz.prog 23 #[.agg #[va1, va2], .agg #[vb1, vb2]] w fun e w' => ∃ v1 v2, e = .returned (.tuple #[.agg #[v1, v2], .bool false]) ∧ (∃ a n c, v1 = .slice a n c) ∧ (∃ a n c, v2 = .slice a n c) ∧ Below w.heap.size w w' :=
 (inter_any va1 va2 vb1 vb2 al ah bl bh w h1 h2 h3 h4).mono fun e w' ⟨v1, v2, he, k1, k2, hb⟩ => ⟨v1, v2, by rw [he, h]; rfl, k1.ints.shape.elim fun a ha => ha.elim fun c hc => ⟨a, _, c, hc.1⟩, k2.ints.shape.elim fun a ha => ha.elim fun c hc => ⟨a, _, c, hc.1⟩, hb⟩
theorem inter_yes (va1 va2 vb1 vb2 : Value) (al ah bl bh : List Int) (m : List Int × List Int) (w : World) (h1 : Ints w va1 al) (h2 : Ints w va2 ah) (h3 : Ints w vb1 bl) (h4 : Ints w vb2 bh) (h : interB al ah bl bh = some m) :
  Calls Tryz.prog 23 #[.agg #[va1, va2], .agg #[vb1, vb2]] w fun e w' => ∃ v1 v2, e = .returned (.tuple #[.agg #[v1, v2], .bool true]) ∧ Ints w' v1 m.1 ∧ Ints w' v2 m.2 ∧ Below w.heap.size w w' :=
 (inter_any va1 va2 vb1 vb2 al ah bl bh w h1 h2 h3 h4).mono fun e w' ⟨v1, v2, he, k1, k2, hb⟩ => ⟨v1, v2, by rw [he, h]; rfl, by rw [h] at k1; exact k1.ints, by rw [h] at k2; exact k2.ints, hb⟩

set_option maxHeartbeats 16000000 in
set_option maxRecDepth 100000 in
theorem hullTail (x : ArrT) (al ah bl bh : List Int) (vd va vc u1 u2 u3 u4 : Value) (B : Nat) (w W1 wr : World) (hm : Ml w) (hx : ArrR w vd va vc x) (k1 : Ints w u1 al) (k2 : Ints w u2 ah) (k3 : Ints w u3 bl) (k4 : Ints w u4 bh) (hs : StrD x.dims) (hsa : StrA x.attrs) (h : checkE x = 0)
  (hw1 : Below w.heap.size w W1) (hbx : HulB B W1 vd va vc u1 u2 u3 u4) (hwr : Below W1.heap.size W1 wr) (v0 v1 v2 v6 v7 v8 v9 v10 v11 v12 v13 v14 v15 v16 v17 v18 v19 v20 v21 v22 v23 v24 v25 v26 v27 v28 v29 v30 v31 v32 v33 v34 v35 v36 v37 v38 v39 v40 v41 v42 v43 v44 v45 v46 v47 v48 v49 v50 v51 v52 v53 v54 v55 v56 v57 v58 v59 v60 v61 v62 v63 v64 v65 v66 v67 v68 v69 v70 v71 v72 v73 v74 v75 v76 v77 v78 v79 v80 v81 v82 v83 v84 v85 v86 v87 v88 v89 v90 v91 v92 v93 v94 v95 v96 v97 v98 v99 v100 v101 v102 v103 v104 v105 v106 v107 v108 v109 v110 v111 v112 v113 v114 v115 v116 v117 v118 v119 v120 v121 v122 v123 v124 v125 v126 v127 v128 v129 v130 v131 v132 v133 v134 v135 v136 v137 v138 v139 v140 v141 v142 v143 v144 v145 v146 v147 v148 v149 v150 v151 v152 v153 v154 v155 v156 v157 v158 v159 v160 v161 v162 v163 v164 v165 v166 v167 v168 v169 v170 v171 v172 v173 v174 v175 v176 v177 v178 v179 v180 v181 v182 v183 v184 v185 v186 v187 v188 v189 v190 v191 v192 v193 v194 v195 v196 v197 v198 v199 v200 v201 v202 v203 v204 v205 v206 : Value) :
  Code.wp Tryz.prog tail20 (bodyPost Tryz.prog Tryz.f6 (RetV' (.bool true) w)) ⟨#[v0, v1, v2, .pointer (some ⟨B, 0, none⟩), .pointer (some ⟨B + 1, 0, none⟩), .pointer (some ⟨B + 1 + 1, 0, none⟩), v6, v7, v8, v9, v10, v11, v12, v13, v14, v15, v16, v17, v18, v19, v20, v21, v22, v23, v24, v25, v26, v27, v28, v29, v30, v31, v32, v33, v34, v35, v36, v37, v38, v39, v40, v41, v42, v43, v44, v45, v46, v47, v48, v49, v50, v51, v52, v53, v54, v55, v56, v57, v58, v59, v60, v61, v62, v63, v64, v65, v66, v67, v68, v69, v70, v71, v72, v73, v74, v75, v76, v77, v78, v79, v80, v81, v82, v83, v84, v85, v86, v87, v88, v89, v90, v91, v92, v93, v94, v95, v96, v97, v98, v99, v100, v101, v102, v103, v104, v105, v106, v107, v108, v109, v110, v111, v112, v113, v114, v115, v116, v117, v118, v119, v120, v121, v122, v123, v124, v125, v126, v127, v128, v129, v130, v131, v132, v133, v134, v135, v136, v137, v138, v139, v140, v141, v142, v143, v144, v145, v146, v147, v148, v149, v150, v151, v152, v153, v154, v155, v156, v157, v158, v159, v160, v161, v162, v163, v164, v165, v166, v167, v168, v169, v170, v171, v172, v173, v174, v175, v176, v177, v178, v179, v180, v181, v182, v183, v184, v185, v186, v187, v188, v189, v190, v191, v192, v193, v194, v195, v196, v197, v198, v199, v200, v201, v202, v203, v204, v205, v206], []⟩ wr := by
 have CW := Lib.hid (fun w1 (hb : Below w.heap.size w w1) => works_any w1 (hm.later hb))
 have HX := Lib.hid hx
 have K12 := Lib.hid (And.intro k1 k2)
 have K34 := Lib.hid (And.intro k3 k4)
 have HBX := Lib.hid hbx
 have HS := Lib.hid (And.intro hs hsa)
 have H := Lib.hid h
 have HW1 := Lib.hid hw1
 have HWR := Lib.hid hwr
 have HWW := Lib.hid (below_keep hw1 hwr)
 obtain ⟨p1, c1, rfl, -⟩ := hx.dims.shape
 obtain ⟨p2, c2, rfl, -⟩ := hx.attrs.shape
 obtain ⟨p3, c3, rfl, -⟩ := hx.cells.shape
 obtain ⟨p4, c4, rfl, -⟩ := k1.shape
 obtain ⟨p5, c5, rfl, -⟩ := k2.shape
 obtain ⟨p6, c6, rfl, -⟩ := k3.shape
 obtain ⟨p7, c7, rfl, -⟩ := k4.shape
 obtain ⟨⟨d0, d1, d2⟩, ⟨d3, d4⟩, d5, d6⟩ := hbx wr hwr
 clear hm hx k1 k2 k3 k4 hbx hs hsa hw1 hwr
 conv => arg 2; whnf
 conv => arg 4; dsimp only
 rcases cutE_cases h al ah with ⟨hE, -⟩ | hE
 ·have C1 := Lib.hid (cut_is x _ 0 al ah _ _ _ _ _ wr (HX.out.later HWW.out) (K12.out.1.later IntR.lasts HWW.out) (K12.out.2.later IntR.lasts HWW.out) HS.out.1 HS.out.2 rfl hE)
  have HE := Lib.hid hE
  have HCK := Lib.hid (cutQ_check h hE)
  have HDA : Hid ((cutQ x al ah).dims = x.dims ∧ (cutQ x al ah).attrs = x.attrs) := by rw [cutQ_ok hE]; exact ⟨rfl, rfl⟩
  have HTW := Lib.hid (fun h2 => cut_twice (bl := bl) (bh := bh) h hE h2)
  obtain ⟨Y, hY⟩ : ∃ Y, Y = cutQ x al ah := ⟨_, rfl⟩
  rw [← hY] at C1 HCK HDA HTW
  clear hE h hY
  go_wp2_with fail
  refine C1.out.mono ?_
  rintro e w3 ⟨t1, t2, t3, rfl, n1, hb⟩
  obtain ⟨A3, hA3, hba, hxa⟩ := arrc_at w3 t1 t2 t3
  have N1 := Lib.hid (n1.later hba)
  obtain ⟨q1, l1, rfl, -⟩ := n1.dims.shape
  obtain ⟨q2, l2, rfl, -⟩ := n1.attrs.shape
  obtain ⟨q3, l3, rfl, -⟩ := n1.cells.shape
  have D3 := Lib.hid (below_keep HWR.out (below_keep hb hba))
  have HW3 := Lib.hid (below_keep HW1.out D3.out)
  have KA := Lib.hid hxa
  clear hb hba hxa n1 C1 d0 d1 d2 d3 d4 d5 d6
  go_upto_region 21 with (fail)
  rw [← hA3]
  clear hA3
  obtain ⟨⟨d0, d1, d2⟩, ⟨d3, d4⟩, d5, d6⟩ := HBX.out A3 D3.out
  obtain ⟨y0, y1, y2⟩ := KA.out A3 (Below.refl _ _)
  rcases cutE_cases HCK.out bl bh with ⟨hE2, -⟩ | hE2
  ·have C2 := Lib.hid (cut_is Y _ 0 bl bh _ _ _ _ _ A3 N1.out (K34.out.1.later IntR.lasts HW3.out) (K34.out.2.later IntR.lasts HW3.out) (by rw [HDA.out.1]; exact HS.out.1) (by rw [HDA.out.2]; exact HS.out.2) rfl hE2)
   have HCZ := Lib.hid (cutQ_check HCK.out hE2)
   have HDZ : Hid ((cutQ Y bl bh).dims = x.dims ∧ (cutQ Y bl bh).attrs = x.attrs) := by rw [cutQ_ok hE2]; exact HDA.out
   have HT2 := Lib.hid (HTW.out hE2)
   obtain ⟨Z, hZ⟩ : ∃ Z, Z = cutQ Y bl bh := ⟨_, rfl⟩
   rw [← hZ] at C2 HCZ HDZ HT2
   clear hE2 hZ
   go_wp2_with fail
   refine C2.out.mono ?_
   rintro e w4 ⟨t1, t2, t3, rfl, n2, hb⟩
   obtain ⟨A4, hA4, hba, hxa⟩ := arrc_at w4 t1 t2 t3
   have N2 := Lib.hid (n2.later hba)
   obtain ⟨q4, l4, rfl, -⟩ := n2.dims.shape
   obtain ⟨q5, l5, rfl, -⟩ := n2.attrs.shape
   obtain ⟨q6, l6, rfl, -⟩ := n2.cells.shape
   have D4 := Lib.hid (below_keep D3.out (below_keep hb hba))
   have HW4 := Lib.hid (below_keep HW1.out D4.out)
   have KB := Lib.hid hxa
   clear hb hba hxa n2 C2 d0 d1 d2 d3 d4 d5 d6 y0 y1 y2
   go_upto_region 24 with (fail)
   rw [← hA4]
   clear hA4
   obtain ⟨⟨d0, d1, d2⟩, ⟨d3, d4⟩, d5, d6⟩ := HBX.out A4 D4.out
   obtain ⟨z0, z1, z2⟩ := KB.out A4 (Below.refl _ _)
   cases hI : interB al ah bl bh with
   | none =>
    have C3 := Lib.hid (inter_no _ _ _ _ al ah bl bh A4 (K12.out.1.later IntR.lasts HW4.out) (K12.out.2.later IntR.lasts HW4.out) (K34.out.1.later IntR.lasts HW4.out) (K34.out.2.later IntR.lasts HW4.out) hI)
    have hz0 : Z.cells.length = 0 := by rw [HT2.out.1 hI]; rfl
    rw [hz0] at KB z2
    clear hI hz0
    go_wp2_with fail
    refine C3.out.mono ?_
    rintro e w5 ⟨t1, t2, rfl, ⟨a1, n1, b1, rfl⟩, ⟨a2, n2, b2, rfl⟩, hb⟩
    obtain ⟨A5, hA5, hba, hxa⟩ := boxm_at' w5 (.slice a1 n1 b1) (.slice a2 n2 b2)
    have D5' := Lib.hid (below_keep hb hba)
    have D5 := Lib.hid (below_keep D4.out D5'.out)
    have HW5 := Lib.hid (below_keep HW1.out D5.out)
    clear hb hba hxa C3 d0 d1 d2 d3 d4 d5 d6 z0 z1 z2
    go_upto_region 27 with (fail)
    rw [← hA5]
    clear hA5
    obtain ⟨z0, z1, z2⟩ := KB.out A5 D5'.out
    go_wp2_with fail
    refine (CW.out _ HW5.out).mono ?_
    rintro e z9 ⟨rfl, hb⟩
    have HBE := Lib.hid (below_keep HW5.out hb)
    clear hb CW
    go_wp2
    go_ret
    exact ⟨rfl, HBE.out⟩
   | some m =>
    have C3 := Lib.hid (inter_yes _ _ _ _ al ah bl bh m A4 (K12.out.1.later IntR.lasts HW4.out) (K12.out.2.later IntR.lasts HW4.out) (K34.out.1.later IntR.lasts HW4.out) (K34.out.2.later IntR.lasts HW4.out) hI)
    have HMM := Lib.hid (HT2.out.2 m hI)
    clear hI
    go_wp2_with fail
    refine C3.out.mono ?_
    rintro e w5 ⟨t1, t2, rfl, n3, n4, hb⟩
    obtain ⟨A5, hA5, hba, hxa⟩ := boxm_at' w5 t1 t2
    have N3 := Lib.hid (And.intro (n3.later IntR.lasts hba) (n4.later IntR.lasts hba))
    obtain ⟨q7, l7, rfl, -⟩ := n3.shape
    obtain ⟨q8, l8, rfl, -⟩ := n4.shape
    have D5' := Lib.hid (below_keep hb hba)
    have D5 := Lib.hid (below_keep D4.out D5'.out)
    have HW5 := Lib.hid (below_keep HW1.out D5.out)
    have KC := Lib.hid hxa
    clear hb hba hxa n3 n4 C3 d0 d1 d2 d3 d4 d5 d6 z0 z1 z2
    go_upto_region 27 with (fail)
    rw [← hA5]
    clear hA5
    obtain ⟨⟨d0, d1, d2⟩, -⟩ := HBX.out A5 D5.out
    obtain ⟨m0, m1⟩ := KC.out A5 (Below.refl _ _)
    have C4 := Lib.hid (cut_is x _ 0 m.1 m.2 _ _ _ _ _ A5 (HX.out.later HW5.out) N3.out.1 N3.out.2 HS.out.1 HS.out.2 HMM.out.2 HMM.out.1)
    go_wp2_with fail
    refine C4.out.mono ?_
    rintro e w6 ⟨t1, t2, t3, rfl, n5, hb⟩
    obtain ⟨A6, hA6, hba, hxa⟩ := arrc_at w6 t1 t2 t3
    have N5 := Lib.hid (n5.later hba)
    obtain ⟨q9, l9, rfl, -⟩ := n5.dims.shape
    obtain ⟨q10, l10, rfl, -⟩ := n5.attrs.shape
    obtain ⟨q11, l11, rfl, -⟩ := n5.cells.shape
    have D6' := Lib.hid (below_keep D5'.out (below_keep hb hba))
    have D6 := Lib.hid (below_keep D4.out D6'.out)
    have HW6 := Lib.hid (below_keep HW1.out D6.out)
    have KD := Lib.hid hxa
    clear hb hba hxa n5 C4 d0 d1 d2 m0 m1
    go_upto_region 30 with (fail)
    rw [← hA6]
    clear hA6
    obtain ⟨z0, z1, z2⟩ := KB.out A6 D6'.out
    obtain ⟨r0, r1, r2⟩ := KD.out A6 (Below.refl _ _)
    have C5 := Lib.hid (same_self Z _ _ _ _ _ _ A6 (N2.out.later D6'.out) N5.out (by rw [HDZ.out.1]; exact HS.out.1) (by rw [HDZ.out.2]; exact HS.out.2) HCZ.out)
    go_wp2_with fail
    refine C5.out.mono ?_
    rintro e w7 ⟨rfl, hb⟩
    have HW7 := Lib.hid (below_keep HW6.out hb)
    clear hb C5 z0 z1 z2 r0 r1 r2
    go_wp2_with fail
    refine (CW.out _ HW7.out).mono ?_
    rintro e z9 ⟨rfl, hb⟩
    have HBE := Lib.hid (below_keep HW7.out hb)
    clear hb CW
    go_wp2
    go_ret
    exact ⟨rfl, HBE.out⟩
  ·have C2 := Lib.hid (cut_is Y _ 13 bl bh _ _ _ _ _ A3 N1.out (K34.out.1.later IntR.lasts HW3.out) (K34.out.2.later IntR.lasts HW3.out) (by rw [HDA.out.1]; exact HS.out.1) (by rw [HDA.out.2]; exact HS.out.2) rfl hE2)
   clear hE2
   go_wp2_with fail
   refine C2.out.mono ?_
   rintro e w4 ⟨t1, t2, t3, rfl, n2, hb⟩
   obtain ⟨A4, hA4, hba, -⟩ := arrc_at w4 t1 t2 t3
   obtain ⟨q4, l4, rfl, -⟩ := n2.dims.shape
   obtain ⟨q5, l5, rfl, -⟩ := n2.attrs.shape
   obtain ⟨q6, l6, rfl, -⟩ := n2.cells.shape
   have HW4 := Lib.hid (below_keep HW3.out (below_keep hb hba))
   clear hb hba n2 C2 d0 d1 d2 d3 d4 d5 d6 y0 y1 y2
   go_upto_region 24 with (fail)
   rw [← hA4]
   clear hA4
   go_wp2_with fail
   refine (CW.out _ HW4.out).mono ?_
   rintro e z9 ⟨rfl, hb⟩
   have HBE := Lib.hid (below_keep HW4.out hb)
   clear hb CW
   go_wp2
   go_ret
   exact ⟨rfl, HBE.out⟩
 ·have C1 := Lib.hid (cut_is x _ 13 al ah _ _ _ _ _ wr (HX.out.later HWW.out) (K12.out.1.later IntR.lasts HWW.out) (K12.out.2.later IntR.lasts HWW.out) HS.out.1 HS.out.2 rfl hE)
  clear hE h
  go_wp2_with fail
  refine C1.out.mono ?_
  rintro e w3 ⟨t1, t2, t3, rfl, n1, hb⟩
  obtain ⟨A3, hA3, hba, -⟩ := arrc_at w3 t1 t2 t3
  obtain ⟨q1, l1, rfl, -⟩ := n1.dims.shape
  obtain ⟨q2, l2, rfl, -⟩ := n1.attrs.shape
  obtain ⟨q3, l3, rfl, -⟩ := n1.cells.shape
  have HW3 := Lib.hid (below_keep HWW.out (below_keep hb hba))
  clear hb hba n1 C1 d0 d1 d2 d3 d4 d5 d6
  go_upto_region 21 with (fail)
  rw [← hA3]
  clear hA3
  go_wp2_with fail
  refine (CW.out _ HW3.out).mono ?_
  rintro e z9 ⟨rfl, hb⟩
  have HBE := Lib.hid (below_keep HW3.out hb)
  clear hb CW
  go_wp2
  go_ret
  exact ⟨rfl, HBE.out⟩
end Go.Proofs.YtkliekoheeeamaaGreatDoor
/- SpaceHull: what is known while one cell's box is cut. -/
namespace Go.Proofs.YtkliekoheeeamaaGreatDoor
open Go.RowKit

theorem arr_store9 (w z : World) (g n : Nat) (v1 v2 v3 c : Value) (l : List CellT) (h3 : CellsO n z v3 l) (ht : TagB z g 52) (e2 : z.cell? ⟨g, 2, none⟩ = some c) (hw : Below w.heap.size w z) (hg : w.heap.size ≤ g) :
  (((z.setCell ⟨g, 0, none⟩ v1).setCell ⟨g, 1, none⟩ v2).setCell ⟨g, 2, none⟩ v3).cell? ⟨g, 2, none⟩ = some v3 ∧ CellsA (((z.setCell ⟨g, 0, none⟩ v1).setCell ⟨g, 1, none⟩ v2).setCell ⟨g, 2, none⟩ v3) v3 l ∧ Below w.heap.size w (((z.setCell ⟨g, 0, none⟩ v1).setCell ⟨g, 1, none⟩ v2).setCell ⟨g, 2, none⟩ v3) := by
 have k2 : ((z.setCell ⟨g, 0, none⟩ v1).setCell ⟨g, 1, none⟩ v2).cell? ⟨g, 2, none⟩ = some c := by
  rw [World.cell?_setCell_other _ _ _ _ (fun e => by injection e with _ e; cases e), World.cell?_setCell_other _ _ _ _ (fun e => by injection e with _ e; cases e)]
  exact e2
 refine ⟨World.cell?_setCell_same _ _ _ k2, ?_, ((hw.setCell (p := ⟨g, 0, none⟩) hg _).setCell (p := ⟨g, 1, none⟩) hg _).setCell (p := ⟨g, 2, none⟩) hg _⟩
 have hgr : z.grownBy (((z.setCell ⟨g, 0, none⟩ v1).setCell ⟨g, 1, none⟩ v2).setCell ⟨g, 2, none⟩ v3) (some g) := ((grown_setG z g 0 v1).trans (grown_setG _ g 1 v2)).trans (grown_setG _ g 2 v3)
 exact (h3.kept hgr (fun r e e2 => by cases e; exact (h3.tag g e2).ne ht (by decide) rfl) (fun r e => by cases e; exact not_tag ht (by decide) (by decide))).cells
theorem cut_okO (x : ArrT) (lo hi : List Int) (vd va vc vl vh : Value) (w : World) (hx : ArrR w vd va vc x) (hlo : Ints w vl lo) (hhi : Ints w vh hi) (hs : StrD x.dims) (hsa : StrA x.attrs) (h : checkE x = 0) (hE : cutE x lo hi = 0) (L : List CellT) (hL : (cutQ x lo hi).cells = L) :
  Calls Tryz.prog 20 #[.agg #[vd, va, vc], .agg #[vl, vh]] w (RetAeO ⟨x.dims, x.attrs, L⟩ 0 w) := by
 rcases cutE_cases h lo hi with ⟨-, h2, h3⟩ | h2
 ·have := cut_coreO x lo hi vd va vc vl vh w hx hlo hhi hs hsa h h2 h3
  rw [cutQ_ok hE] at hL
  subst hL
  exact this
 ·rw [hE] at h2; cases h2
theorem hull_noS (x : ArrT) (vd va vc : Value) (w : World) (hx : ArrR w vd va vc x) (hs : StrD x.dims) (hsa : StrA x.attrs) (h : hullQ x = none) :
  Calls Tryz.prog 21 #[.agg #[vd, va, vc]] w fun e w' => ∃ v1 v2, e = .returned (.tuple #[.agg #[v1, v2], .bool false]) ∧ (∃ a n c, v1 = .slice a n c) ∧ (∃ a n c, v2 = .slice a n c) ∧ Below w.heap.size w w' :=
 (hull_any x vd va vc w hx hs hsa).mono fun e w' ⟨v1, v2, he, k1, k2, hb⟩ => ⟨v1, v2, by rw [he, h]; rfl, k1.ints.shape.elim fun a ha => ha.elim fun c hc => ⟨a, _, c, hc.1⟩, k2.ints.shape.elim fun a ha => ha.elim fun c hc => ⟨a, _, c, hc.1⟩, hb⟩
/-- a result: an array with one cell -/
def RetC1 (c : CellT) (w : World) (e : Ending) (w' : World) : Prop := ∃ p1 n1 c1 p2 n2 c2 p3 c3, e = .returned (.tuple #[.agg #[.slice p1 n1 c1, .slice p2 n2 c2, .slice p3 1 c3], .int .i64 0]) ∧ CellsO w.heap.size w' (.slice p3 1 c3) [c] ∧ Below w.heap.size w w'
theorem cut_c1 (x : ArrT) (c : CellT) (vd va vc vl : Value) (w : World) (hx : ArrR w vd va vc x) (hc : Ints w vl c.co) (hs : StrD x.dims) (hsa : StrA x.attrs) (h : checkE x = 0) (hE : cutE x c.co c.co = 0) (hL : (cutQ x c.co c.co).cells = [c]) :
  Calls Tryz.prog 20 #[.agg #[vd, va, vc], .agg #[vl, vl]] w (RetC1 c w) :=
 (cut_okO x c.co c.co vd va vc vl vl w hx hc hc hs hsa h hE [c] hL).mono fun e w' ⟨v1, v2, v3, he, h1, _, h2, _, h3, hb⟩ => by
  obtain ⟨a1, b1, rfl, -⟩ := h1.shape
  obtain ⟨a2, b2, rfl, -⟩ := h2.shape
  obtain ⟨a3, b3, rfl, -⟩ := h3.cells.shape
  exact ⟨_, _, _, _, _, _, _, _, he, h3, hb⟩
/-- an array's block -/
structure ArrB (w : World) (b : Nat) (v0 v1 v2 : Value) : Prop where
 c0 : w.cell? ⟨b, 0, none⟩ = some v0
 c1 : w.cell? ⟨b, 1, none⟩ = some v1
 c2 : w.cell? ⟨b, 2, none⟩ = some v2
 f0 : w.frozen? ⟨b, 0, none⟩ = false
 f1 : w.frozen? ⟨b, 1, none⟩ = false
 f2 : w.frozen? ⟨b, 2, none⟩ = false
 tag : TagB w b 52
theorem ArrB.later {w w' : World} {b : Nat} {v0 v1 v2 : Value} (h : ArrB w b v0 v1 v2) (hb : Below w.heap.size w w') : ArrB w' b v0 v1 v2 :=
 ⟨cell_later h.c0 hb, cell_later h.c1 hb, cell_later h.c2 hb, (hb.frozen (p := ⟨b, 0, none⟩) h.tag.lt).trans h.f0, (hb.frozen (p := ⟨b, 1, none⟩) h.tag.lt).trans h.f1, (hb.frozen (p := ⟨b, 2, none⟩) h.tag.lt).trans h.f2, h.tag.kept (hb.block _ h.tag.lt)⟩
/-- what the call yields -/
def TupC (n₀ : Nat) (c : CellT) (S : Prop) (w : World) (u : Value) : Prop := ∃ p1 n1 c1 p2 n2 c2 p3 c3, u = .tuple #[.agg #[.slice p1 n1 c1, .slice p2 n2 c2, .slice p3 1 c3], .int .i64 0] ∧ (S → CellsO n₀ w (.slice p3 1 c3) [c])
def AggC (n₀ : Nat) (c : CellT) (S : Prop) (w : World) (u : Value) : Prop := ∃ p1 n1 c1 p2 n2 c2 p3 c3, u = .agg #[.slice p1 n1 c1, .slice p2 n2 c2, .slice p3 1 c3] ∧ (S → CellsO n₀ w (.slice p3 1 c3) [c])
theorem TupC.mono {n₀ : Nat} {c : CellT} {S S' : Prop} {w w' : World} {u : Value} (h : TupC n₀ c S w u) (hs : S' → S) (hw : S' → Below w.heap.size w w') : TupC n₀ c S' w' u := by
 obtain ⟨p1, n1, c1, p2, n2, c2, p3, c3, e, k⟩ := h
 exact ⟨_, _, _, _, _, _, _, _, e, fun s => (k (hs s)).later (hw s)⟩
theorem AggC.mono {n₀ : Nat} {c : CellT} {S S' : Prop} {w w' : World} {u : Value} (h : AggC n₀ c S w u) (hs : S' → S) (hw : S' → Below w.heap.size w w') : AggC n₀ c S' w' u := by
 obtain ⟨p1, n1, c1, p2, n2, c2, p3, c3, e, k⟩ := h
 exact ⟨_, _, _, _, _, _, _, _, e, fun s => (k (hs s)).later (hw s)⟩
structure CvJ (VL : List (Option Value)) (jC jM j1 jA jS : Nat) (W0 : World) (c : CellT) (dn : Nat → Bool) (vals : Nat → Value) (w : World) : Prop where
 below : Below W0.heap.size W0 w
 fC : dn jC = true → TupC W0.heap.size c (dn jS = false) w (vals jC)
 fM : dn jM = true → TupC W0.heap.size c (dn jS = false) w (vals jM)
 f1 : dn j1 = true → AggC W0.heap.size c (dn jS = false) w (vals j1)
 fA : dn jA = true → dn jS = false → ∃ b, vals jA = .pointer (some ⟨b, 0, none⟩) ∧ ArrB w b (.slice none 0 0) (.slice none 0 0) (.slice none 0 0) ∧ W0.heap.size ≤ b
 fS : dn jS = true → ∃ b p k, vals jA = .pointer (some ⟨b, 0, none⟩) ∧ w.cell? ⟨b, 2, none⟩ = some (.slice p 1 k) ∧ CellsA w (.slice p 1 k) [c]
 fv : Told VL dn vals
section
variable {VL : List (Option Value)} {jC jM j1 jA jS : Nat} {W0 : World} {c : CellT} {dn : Nat → Bool} {vals : Nat → Value} {w : World}
theorem CvJ.start {W : World} (h : Below W0.heap.size W0 W) : CvJ VL jC jM j1 jA jS W0 c (fun _ => false) (fun _ => undef) W :=
 ⟨h, fun h => Bool.noConfusion h, fun h => Bool.noConfusion h, fun h => Bool.noConfusion h, fun h => Bool.noConfusion h, fun h => Bool.noConfusion h, fun _ _ _ h => Bool.noConfusion h⟩
/-- a step that leaves the world -/
theorem CvJ.stay {i : Nat} {v : Value} (h : CvJ VL jC jM j1 jA jS W0 c dn vals w) (hC : jC ≠ i) (hM : jM ≠ i) (h1 : j1 ≠ i) (hA : jA ≠ i) (hS : jS ≠ i) (hv : VL[i]? = some (some v) ∨ VL[i]? = some none) : CvJ VL jC jM j1 jA jS W0 c (upd dn i) (updV vals i v) w := by
 refine ⟨h.below, ?_, ?_, ?_, ?_, ?_, h.fv.step hv⟩
 ·rw [upd_ne hC, upd_ne hS, updV_ne hC]; exact h.fC
 ·rw [upd_ne hM, upd_ne hS, updV_ne hM]; exact h.fM
 ·rw [upd_ne h1, upd_ne hS, updV_ne h1]; exact h.f1
 ·rw [upd_ne hA, upd_ne hS, updV_ne hA]; exact h.fA
 ·rw [upd_ne hS, updV_ne hA]; exact h.fS
theorem CvJ.call {v : Value} {w' : World} (h : CvJ VL jC jM j1 jA jS W0 c dn vals w) (hM : jM ≠ jC) (h1 : j1 ≠ jC) (hA : jA ≠ jC) (hS : jS ≠ jC) (nM : dn jM = false) (ns : dn jS = false) (hv : VL[jC]? = some none) (hb : Below w.heap.size w w') (hg : TupC W0.heap.size c True w' v) : CvJ VL jC jM j1 jA jS W0 c (upd dn jC) (updV vals jC v) w' := by
 refine ⟨below_keep h.below hb, ?_, ?_, ?_, ?_, ?_, h.fv.step (.inr hv)⟩
 ·rw [updV_at]; exact fun _ => hg.mono (fun _ => trivial) (fun _ => Below.refl _ _)
 ·rw [upd_ne hM, nM]; exact fun h => Bool.noConfusion h
 ·rw [upd_ne h1, upd_ne hS, updV_ne h1]; exact fun hd => (h.f1 hd).mono id (fun _ => hb)
 ·rw [upd_ne hA, upd_ne hS, updV_ne hA]; intro k1 k2; obtain ⟨b, e, q1, q2⟩ := h.fA k1 k2; exact ⟨b, e, q1.later hb, q2⟩
 ·rw [upd_ne hS, ns]; exact fun h => Bool.noConfusion h
theorem CvJ.move (h : CvJ VL jC jM j1 jA jS W0 c dn vals w) (hC : jC ≠ jM) (h1 : j1 ≠ jM) (hA : jA ≠ jM) (hS : jS ≠ jM) (dC : dn jC = true) (hv : VL[jM]? = some none) {v : Value} (he : v = vals jC) : CvJ VL jC jM j1 jA jS W0 c (upd dn jM) (updV vals jM v) w := by
 subst he
 refine ⟨h.below, ?_, ?_, ?_, ?_, ?_, h.fv.step (.inr hv)⟩
 ·rw [upd_ne hC, upd_ne hS, updV_ne hC]; exact h.fC
 ·rw [updV_at, upd_ne hS]; exact fun _ => h.fC dC
 ·rw [upd_ne h1, upd_ne hS, updV_ne h1]; exact h.f1
 ·rw [upd_ne hA, upd_ne hS, updV_ne hA]; exact h.fA
 ·rw [upd_ne hS, updV_ne hA]; exact h.fS
theorem CvJ.ext (h : CvJ VL jC jM j1 jA jS W0 c dn vals w) (hC : jC ≠ j1) (hM : jM ≠ j1) (hA : jA ≠ j1) (hS : jS ≠ j1) (hv : VL[j1]? = some none) {v : Value} (he : AggC W0.heap.size c (dn jS = false) w v) : CvJ VL jC jM j1 jA jS W0 c (upd dn j1) (updV vals j1 v) w := by
 refine ⟨h.below, ?_, ?_, ?_, ?_, ?_, h.fv.step (.inr hv)⟩
 ·rw [upd_ne hC, upd_ne hS, updV_ne hC]; exact h.fC
 ·rw [upd_ne hM, upd_ne hS, updV_ne hM]; exact h.fM
 ·rw [updV_at, upd_ne hS]; exact fun _ => he
 ·rw [upd_ne hA, upd_ne hS, updV_ne hA]; exact h.fA
 ·rw [upd_ne hS, updV_ne hA]; exact h.fS
theorem CvJ.alloc (h : CvJ VL jC jM j1 jA jS W0 c dn vals w) (hC : jC ≠ jA) (hM : jM ≠ jA) (h1 : j1 ≠ jA) (hS : jS ≠ jA) (ns : dn jS = false) (hv : VL[jA]? = some none) : CvJ VL jC jM j1 jA jS W0 c (upd dn jA) (updV vals jA (.pointer (some ⟨w.heap.size, 0, none⟩))) (w.alloc (.cells #[.slice none 0 0, .slice none 0 0, .slice none 0 0] 52)) := by
 obtain ⟨W1, hW, hb, hx⟩ := arr_zero w
 rw [← hW]
 obtain ⟨⟨x0, x1, x2⟩, ⟨y0, y1, y2⟩, ht⟩ := hx W1 (Below.refl _ _)
 refine ⟨below_keep h.below hb, ?_, ?_, ?_, ?_, ?_, h.fv.step (.inr hv)⟩
 ·rw [upd_ne hC, upd_ne hS, updV_ne hC]; exact fun hd => (h.fC hd).mono id (fun _ => hb)
 ·rw [upd_ne hM, upd_ne hS, updV_ne hM]; exact fun hd => (h.fM hd).mono id (fun _ => hb)
 ·rw [upd_ne h1, upd_ne hS, updV_ne h1]; exact fun hd => (h.f1 hd).mono id (fun _ => hb)
 ·rw [updV_at]; exact fun _ _ => ⟨_, rfl, ⟨x0, x1, x2, y0, y1, y2, ht⟩, h.below.size⟩
 ·rw [upd_ne hS, ns]; exact fun h => Bool.noConfusion h
theorem CvJ.store (h : CvJ VL jC jM j1 jA jS W0 c dn vals w) (hC : jC ≠ jS) (hM : jM ≠ jS) (h1 : j1 ≠ jS) (hA : jA ≠ jS) (hv : VL[jS]? = some none) {b : Nat} (he : vals jA = .pointer (some ⟨b, 0, none⟩)) {x0 x1 x2 : Value} (hr : ArrB w b x0 x1 x2) (hn : W0.heap.size ≤ b) {v v1 v2 : Value} {p k} (ho : CellsO W0.heap.size w (.slice p 1 k) [c]) :
  CvJ VL jC jM j1 jA jS W0 c (upd dn jS) (updV vals jS v) (((w.setCell ⟨b, 0, none⟩ v1).setCell ⟨b, 1, none⟩ v2).setCell ⟨b, 2, none⟩ (.slice p 1 k)) := by
 obtain ⟨q1, q2, q3⟩ := arr_store9 W0 w b _ v1 v2 _ _ _ ho hr.tag hr.c2 h.below hn
 refine ⟨q3, ?_, ?_, ?_, ?_, ?_, h.fv.step (.inr hv)⟩
 ·rw [upd_ne hC, upd_at, updV_ne hC]; exact fun hd => by
   obtain ⟨p1, n1, c1, p2, n2, c2, p3, c3, e, -⟩ := h.fC hd
   exact ⟨_, _, _, _, _, _, _, _, e, fun h => Bool.noConfusion h⟩
 ·rw [upd_ne hM, upd_at, updV_ne hM]; exact fun hd => by
   obtain ⟨p1, n1, c1, p2, n2, c2, p3, c3, e, -⟩ := h.fM hd
   exact ⟨_, _, _, _, _, _, _, _, e, fun h => Bool.noConfusion h⟩
 ·rw [upd_ne h1, upd_at, updV_ne h1]; exact fun hd => by
   obtain ⟨p1, n1, c1, p2, n2, c2, p3, c3, e, -⟩ := h.f1 hd
   exact ⟨_, _, _, _, _, _, _, _, e, fun h => Bool.noConfusion h⟩
 ·rw [upd_at]; exact fun _ h => Bool.noConfusion h
 ·rw [updV_ne hA]; exact fun _ => ⟨b, p, k, he, q1, q2⟩
end
end Go.Proofs.YtkliekoheeeamaaGreatDoor
