/- Lemmas and contracts, each under its own condition: A loop over an iterator that keeps no block of its own, whose body writes blocks (of which c tells) that are older; the values handed over do not depend on the world. slices.Backward over dimensions: the iterator's contract. At: both contracts. -/
import Derived.Outline
import Derived.IntWalk
import Derived.BigQuiet
import Derived.Deep.RegionHeld3
import Derived.Deep.DeepCutAuto
import Derived.Deep.CutBlock
import Derived.Test.YtpdhlgkcjakcgaaGreatDoorS2
import Derived.Test.YtpdhlgkcjakcgaaGreatDoorS24
import Derived.Test.YtpdhlgkcjakcgaaGreatDoorS8
/- A loop over an iterator that keeps no block of its own, whose body writes blocks (of which c tells) that are older; the values handed over do not depend on the world. -/
namespace Go.Proofs.YtpdhlgkcjakcgaaGreatDoor
open Go.RowKit Go.Shelf

/-- below B all but the blocks of c is as it was -/
structure BelowP (c : Nat → Prop) (B : Nat) (w w' : World) : Prop where
  os : w'.os = w.os
  tape : w'.tape = w.tape
  output : w'.output = w.output
  size : w.heap.size ≤ w'.heap.size
  block : ∀ k, k < B → ¬ c k → w'.heap[k]? = w.heap[k]?
theorem belowP_of {B : Nat} {w w' : World} (c : Nat → Prop) (h : Below B w w') : BelowP c B w w' := ⟨h.os, h.tape, h.output, h.size, fun k hk _ => h.block k hk⟩
theorem BelowP.trans {c : Nat → Prop} {B : Nat} {a b d : World} (h : BelowP c B a b) (k : BelowP c B b d) : BelowP c B a d :=
  ⟨k.os.trans h.os, k.tape.trans h.tape, k.output.trans h.output, Nat.le_trans h.size k.size, fun i hi hc => (k.block i hi hc).trans (h.block i hi hc)⟩
theorem BelowP.setCell {c : Nat → Prop} {B : Nat} {a w : World} (h : BelowP c B a w) {p : Addr} (hp : c p.block) (u : Value) : BelowP c B a (w.setCell p u) :=
  h.trans ⟨rfl, rfl, rfl, by simp [World.setCell], fun k hk hc => Below.heap_setCell w p u k (fun e => hc (by rw [e]; exact hp))⟩
theorem cellP {c : Nat → Prop} {w w' : World} {g o : Nat} {v : Value} (h : w.cell? ⟨g, o, none⟩ = some v) (hb : BelowP c w.heap.size w w') (hc : ¬ c g) : w'.cell? ⟨g, o, none⟩ = some v :=
  (World.cell?_of_block (a := ⟨g, o, none⟩) (hb.block g (World.block_lt_of_cell? _ _ h) hc)).trans h

theorem grown_of_below' {w w' : World} (h : Below w.heap.size w w') (row : Option Nat) : w.grownBy w' row := ⟨h.os, h.tape, h.output, h.size, fun k hk _ => h.block k hk⟩

/-- the contract of such an iterator: N rounds; the k-th round is handed values of which Fr k tells -/
def SeqK (c : Nat → Prop) (F : Fence) (n : Nat) (P : Program) (gf : Nat) (lb : Array Value) (N : Nat) (Fr : Nat → Array Value → Prop) (w : World) : Prop :=
  ∀ (l : Nat) (J : Nat → World → Prop) (W : World), Below w.heap.size w W →
    (∀ k A B, J k A → A.grownBy B none → J k B) →
    (∀ W0, Below W.heap.size W W0 → J 0 W0) →
    (∀ k vs W1, J k W1 → k < N → Fr k vs → YieldAt F (n - 1) P l vs W1 fun e W' =>
      e = .returned (.bool true) ∧ J (k + 1) W' ∧ BelowP c w.heap.size W1 W') →
    CallsIn F n P gf (#[.func (.yield l) #[] #[]] ++ lb) W fun e W' => (∃ v, e = .returned v) ∧ J N W'

/-- how the body of a round is left -/
def ptsPostK (c : Nat → Prop) (B n₀ : Nat) (I : Nat → World → Prop) (k : Nat) (W : World) : Exit → Act → World → Prop
  | .normal, _, W' => KeepsFrom B W W' ∧ BelowP c n₀ W W' ∧ I k W'
  | _, _, _ => False

variable {F : Fence} {n : Nat} {P : Program}

theorem wpIn_rangeFunc_seqK {c : Nat → Prop} {g : Operand} {ps : Array Tmp} {assign body : Code} {Q : Exit → Act → World → Prop} {a : Act} {w : World}
    (hro : F.round = none) (h1 : 1 ≤ n) {gf : Nat} {lb : Array Value} (hg : a.eval g = .func (.func gf) #[] lb) (hFg : F.fn gf) (eg : ∀ args w, (callFunc gf args).run P w = .ok (.enter gf args) w)
    {N : Nat} {Fr : Nat → Array Value → Prop} {w0 : World} (hseq : SeqK c F (n - 1) P gf lb N Fr w0) (hb0 : Below w0.heap.size w0 w) (hps : ∀ k vs, Fr k vs → vs.size = ps.size)
    (I : Nat → World → Prop)
    (hI : ∀ k A B row, I k A → A.grownBy B row → (∀ r, row = some r → w.heap.size ≤ r ∧ ∃ o : Obj, A.heap[r]? = some o ∧ o.isCells = false) → I k B)
    (h0 : ∀ W0, Below w.heap.size w W0 → I 0 W0)
    (S : Nat → Array Value → Act → World → Prop)
    (hS : ∀ k vs a' A B row, S k vs a' A → A.grownBy B row → (∀ r, row = some r → w.heap.size ≤ r ∧ ∃ o : Obj, A.heap[r]? = some o ∧ o.isCells = false) → S k vs a' B)
    (hassign : ∀ (l k : Nat) (vs : Array Value) (W : World) (K : Act → World → Prop), Fr k vs → I k W → (∀ a' W', Below W.heap.size W W' → S k vs a' W' → K a' W') →
      assign.wpIn (F.inRound l) (n - 1 - 1) P (Exit.then K (fun _ _ _ => False)) { tmps := (ps.zip vs).foldl (fun t (p, v) => t.setIfInBounds p v) a.tmps, defers := [] } W)
    (hbody : ∀ (l k : Nat) (vs : Array Value) (a' : Act) (W : World), I k W → k < N → Fr k vs → S k vs a' W → body.wpIn (F.inRound l) (n - 1 - 1) P (ptsPostK c w.heap.size w0.heap.size I (k + 1) W) a' W)
    (hdone : ∀ (D : Nat) (W : World), w.heap.size ≤ D → I N W → W.heap[D]? = some (.deferred (some [])) → Q .normal { a with defers := { target := .collected D, args := #[] } :: a.defers } W) :
    (Code.rangeFunc g ps assign body).wpIn F n P Q a w := by
  refine wpIn_rangeFunc ?_
  intro fn hfn
  rw [hro]
  obtain ⟨rec, hrec⟩ : ∃ rec : LoopState → Option Code → Loop, rec = fun st pe => { state := st, pending := pe, fn, tmps := a.tmps, params := ps, assign, body, defers := w.heap.size } := ⟨_, rfl⟩
  obtain ⟨W1, hW1⟩ : ∃ W1, (w.alloc (.deferred (some []))).alloc (.loop (rec .ready none)) = W1 := ⟨_, rfl⟩
  have hL1 : W1.heap[w.heap.size + 1]? = some (.loop (rec .ready none)) := by
    rw [← hW1]; have := World.alloc_heap_new (w.alloc (.deferred (some []))) (.loop (rec .ready none)); rwa [World.size_alloc] at this
  have hK1 : W1.heap[w.heap.size]? = some (.deferred (some [])) := by
    rw [← hW1]; exact (Below.heap_alloc _ _ _ (by simp)).trans (World.alloc_heap_new w _)
  have hsz1 : W1.heap.size = w.heap.size + 2 := by rw [← hW1]; simp
  have hw1 : Below w.heap.size w W1 := by
    rw [← hW1]; exact ((Below.refl _ w).alloc (Nat.le_refl _) _).alloc (by simp) _
  have hb1 : Below w0.heap.size w0 W1 := hb0.trans (hw1.mono hb0.size)
  have hputI : ∀ {k : Nat} {W : World} {l : Nat} {o : Obj} (o' : Obj), I k W → w.heap.size ≤ l → W.heap[l]? = some o → o.isCells = false → I k (W.putObj l o') := fun {k W l o} o' hi hl ho hc =>
    hI k W _ (some l) hi (grownBy_putObj' W l o') (fun r e => by cases e; exact ⟨hl, o, ho, hc⟩)
  refine ⟨w.heap.size + 1, [{ target := .collected w.heap.size, args := #[] }], W1, { target := .fn (.func gf) lb, args := #[.func (.yield (w.heap.size + 1)) #[] #[]] }, W1, gf,
    #[.func (.yield (w.heap.size + 1)) #[] #[]] ++ lb, W1, ?_, ?_, ?_, ?_, fun _ => h1, ?_⟩
  · rw [← hW1, hrec]; exact run_enterLoop_outer _ _ _ _ _
  · simp only [resolve, hg]
    simp [go_sem]
  · intro f' hf'; simp [Target.leads] at hf'; subst hf'; exact hFg
  · simp [invoke, go_sem, eg]
  · refine (hseq (w.heap.size + 1)
      (fun k W => I k W ∧ W.heap[w.heap.size + 1]? = some (.loop (rec .ready none)) ∧ W.heap[w.heap.size]? = some (.deferred (some [])))
      W1 hb1 ?_ ?_ ?_).mono ?_
    · rintro k A B ⟨hi, hl, hk⟩ hgr
      exact ⟨hI k A B none hi hgr (fun r e => by cases e),
        (hgr.block _ (Array.getElem?_eq_some_iff.1 hl).1 (fun e => by cases e)).trans hl,
        (hgr.block _ (Array.getElem?_eq_some_iff.1 hk).1 (fun e => by cases e)).trans hk⟩
    · intro W0 hb
      exact ⟨h0 W0 (hw1.trans (hb.mono (by omega))), (hb.block _ (by omega)).trans hL1, (hb.block _ (by omega)).trans hK1⟩
    · -- one round
      rintro k vs W ⟨hi, hl, hk⟩ hlt hfr
      have hy := run_yield (P := P) (args := vs) hl (by rw [hrec]; exact hps k vs hfr)
      rw [hrec] at hy
      refine ⟨fn, _, assign, body, hy, roundIn_of_wpIn hfn (hassign _ k vs W _ hfr hi fun a' V hbv hsv => ?_)⟩
      have hl' : V.heap[w.heap.size + 1]? = some (.loop (rec .ready none)) := (hbv.block _ (Array.getElem?_eq_some_iff.1 hl).1).trans hl
      have hk' : V.heap[w.heap.size]? = some (.deferred (some [])) := (hbv.block _ (Array.getElem?_eq_some_iff.1 hk).1).trans hk
      have hiV : I k V := hI k W V none hi (grown_of_below' hbv none) (fun r e => by cases e)
      refine ⟨_, run_beginRound hl' (by rw [hrec]), ?_⟩
      have hll : w.heap.size + 1 < V.heap.size := (Array.getElem?_eq_some_iff.1 hl').1
      have hl2 : (V.putObj (w.heap.size + 1) (.loop { rec .ready none with state := .busy })).heap[w.heap.size + 1]? = some (.loop { rec .ready none with state := .busy }) := World.putObj_heap_same hll
      have hk2 : (V.putObj (w.heap.size + 1) (.loop { rec .ready none with state := .busy })).heap[w.heap.size]? = some (.deferred (some [])) := (World.putObj_heap_other (by omega)).trans hk'
      have hb2 : Below w0.heap.size V (V.putObj (w.heap.size + 1) (.loop { rec .ready none with state := .busy })) := belowK_b (w := w) hb0.size _ _ _ _ (by omega) hl' rfl rfl
      have hWB : w0.heap.size ≤ W.heap.size := by
        have h1 := (Array.getElem?_eq_some_iff.1 hl).1
        have h2 := hb0.size
        omega
      have hb3 : BelowP c w0.heap.size W V := belowP_of c (hbv.mono hWB)
      refine wpIn_mono (hbody _ k vs a' _ (hputI _ hiV (by omega) hl' rfl) hlt hfr (hS k vs a' V _ (some (w.heap.size + 1)) hsv (grownBy_putObj' V _ _) (fun r e => by cases e; exact ⟨by omega, _, hl', rfl⟩))) ?_
      rintro e a3 W3 hp
      cases e with
      | normal =>
        obtain ⟨hk3, hb4, hi3⟩ := hp
        have hl3 := hk3.same _ _ (by omega) hl2 rfl
        have hr := run_endRound (P := P) none hl3
        rw [hrec] at hr hl3
        refine ⟨_, _, hr, rfl, ⟨?_, ?_, ?_⟩, ?_⟩
        · exact hputI _ hi3 (by omega) hl3 rfl
        · rw [hrec]
          exact World.putObj_heap_same (Array.getElem?_eq_some_iff.1 hl3).1
        · exact (World.putObj_heap_other (by omega)).trans (hk3.same _ _ (Nat.le_refl _) hk2 rfl)
        · exact hb3.trans ((belowP_of c hb2).trans (hb4.trans (belowP_of c (belowK_b (w := w) hb0.size _ _ _ _ (by omega) hl3 rfl rfl))))
      | ret => exact hp.elim
      | exit id => exact hp.elim
      | goto t => exact hp.elim
      | panic ch => exact hp.elim
      | outgrown => exact hp.elim
    · rintro e W2 ⟨⟨v, rfl⟩, hi, hl, hk⟩
      exact ⟨none, _, by have := run_endLoop (P := P) hl (by rw [hrec]; simp); rw [hrec] at this; exact this, hdone _ _ (Nat.le_refl _) (hputI _ hi (by omega) hl rfl) ((World.putObj_heap_other (by omega)).trans hk)⟩
/-- the law where two values are handed over: the first goes into a slot, the second into a block of its own -/
theorem wpIn_rangeFunc_seqK2 {c : Nat → Prop} {g : Operand} {p1 p2 : Tmp} (s1 s2 : Tmp) {assign body : Code} {Q : Exit → Act → World → Prop} {a : Act} {w : World}
    (hro : F.round = none) (h1 : 1 ≤ n) {gf : Nat} {lb : Array Value} (hg : a.eval g = .func (.func gf) #[] lb) (hFg : F.fn gf) (eg : ∀ args w, (callFunc gf args).run P w = .ok (.enter gf args) w)
    {N : Nat} {Fr : Nat → Array Value → Prop} {w0 : World} (hseq : SeqK c F (n - 1) P gf lb N Fr w0) (hb0 : Below w0.heap.size w0 w) (hps : ∀ k vs, Fr k vs → ∃ v1 v2, vs = #[v1, v2])
    (I : Nat → World → Prop)
    (hI : ∀ k A B row, I k A → A.grownBy B row → (∀ r, row = some r → w.heap.size ≤ r ∧ ∃ o : Obj, A.heap[r]? = some o ∧ o.isCells = false) → I k B)
    (h0 : ∀ W0, Below w.heap.size w W0 → I 0 W0)
    (S : Nat → Value → Value → Nat → World → Prop)
    (hS : ∀ k v1 v2 p A B row, S k v1 v2 p A → A.grownBy B row → (∀ r, row = some r → w.heap.size ≤ r ∧ ∃ o : Obj, A.heap[r]? = some o ∧ o.isCells = false) → S k v1 v2 p B)
    (hassign : ∀ (l k : Nat) (v1 v2 : Value) (W : World) (K : Act → World → Prop), Fr k #[v1, v2] → I k W →
      (∀ p W', Below W.heap.size W W' → S k v1 v2 p W' → K { tmps := (((a.tmps.setIfInBounds p1 v1).setIfInBounds p2 v2).setIfInBounds s1 v1).setIfInBounds s2 (.pointer (some ⟨p, 0, none⟩)), defers := [] } W') →
      assign.wpIn (F.inRound l) (n - 1 - 1) P (Exit.then K (fun _ _ _ => False)) { tmps := (a.tmps.setIfInBounds p1 v1).setIfInBounds p2 v2, defers := [] } W)
    (hbody : ∀ (l k : Nat) (v1 v2 : Value) (p : Nat) (W : World), I k W → k < N → Fr k #[v1, v2] → S k v1 v2 p W →
      body.wpIn (F.inRound l) (n - 1 - 1) P (ptsPostK c w.heap.size w0.heap.size I (k + 1) W) { tmps := (((a.tmps.setIfInBounds p1 v1).setIfInBounds p2 v2).setIfInBounds s1 v1).setIfInBounds s2 (.pointer (some ⟨p, 0, none⟩)), defers := [] } W)
    (hdone : ∀ (D : Nat) (W : World), w.heap.size ≤ D → I N W → W.heap[D]? = some (.deferred (some [])) → Q .normal { a with defers := { target := .collected D, args := #[] } :: a.defers } W) :
    (Code.rangeFunc g #[p1, p2] assign body).wpIn F n P Q a w := by
  refine wpIn_rangeFunc_seqK hro h1 hg hFg eg hseq hb0 (fun k vs h => by obtain ⟨v1, v2, rfl⟩ := hps k vs h; rfl) I hI h0
    (fun k vs a' W => ∃ v1 v2 p, vs = #[v1, v2] ∧ a' = { tmps := (((a.tmps.setIfInBounds p1 v1).setIfInBounds p2 v2).setIfInBounds s1 v1).setIfInBounds s2 (.pointer (some ⟨p, 0, none⟩)), defers := [] } ∧ S k v1 v2 p W)
    ?_ ?_ ?_ hdone
  · rintro k vs a' A B row ⟨v1, v2, p, e1, e2, h⟩ hg hr
    exact ⟨v1, v2, p, e1, e2, hS k v1 v2 p A B row h hg hr⟩
  · intro l k vs W K hfr hi hK
    obtain ⟨v1, v2, rfl⟩ := hps k vs hfr
    have := hassign l k v1 v2 W K hfr hi (fun p W' hb hs => hK _ _ hb ⟨v1, v2, p, rfl, rfl, hs⟩)
    simpa using this
  · rintro l k vs a' W hi hk hfr ⟨v1, v2, p, rfl, rfl, hs⟩
    exact hbody l k v1 v2 p W hi hk hfr hs
end Go.Proofs.YtpdhlgkcjakcgaaGreatDoor
/- slices.Backward over dimensions: the iterator's contract. -/
namespace Go.Proofs.YtpdhlgkcjakcgaaGreatDoor
open Go.RowKit Go.Shelf
attribute [local go_sem] Oper.semAt_some

/-- what the k-th round is handed -/
def FrB (d : List DimT) (k : Nat) (vs : Array Value) : Prop := ∃ x, d[d.length - 1 - k]? = some x ∧ vs = #[.int .i64 ((d.length - 1 - k : Nat) : Int), dimV x]
/-- the iterator of a slice -/
def RetBk (B : Nat) (w : World) (e : Ending) (w' : World) (v : Value) : Prop := e = .returned (.func (.func B) #[] #[.pointer (some ⟨w.heap.size, 0, none⟩)]) ∧ w' = w.alloc (.cells #[v] 22)
theorem backward_any (p : Option Addr) (n k : Nat) (w : World) :
    Calls Tryz.prog 118 #[.slice p n k] w (fun e w' => e = .returned (.func (.func 141) #[] #[.pointer (some ⟨w.heap.size, 0, none⟩)]) ∧ w' = w.alloc (.cells #[.slice p n k] 22)) := by
  go_enter Tryz.func118, Tryz.ntmps118
  go_wp2
  go_ret
  exact ⟨rfl, rfl⟩

set_option maxRecDepth 100000 in
set_option maxHeartbeats 8000000 in
theorem backward1_any (c : Nat → Prop) (d : List DimT) (vd : Value) (w : World) (Bb : Nat) (hc0 : w.cell? ⟨Bb, 0, none⟩ = some vd) (hd : Dims w vd d) (h4 : d.length ≤ 1000)
    (cB : ¬ c Bb) (cD : ∀ g o n k, vd = .slice (some ⟨g, o, none⟩) n k → ¬ c g) :
    SeqK c Fence.wide 4 Tryz.prog 141 #[.pointer (some ⟨Bb, 0, none⟩)] d.length (FrB d) w := by
  intro l J W hW hJ hJ0 hY
  have HD := Lib.hid hd
  have HJ0 := Lib.hid (hJ0 W (Below.refl _ _))
  have HY := Lib.hid hY
  have HWB := Lib.hid hW
  have HC0 := Lib.hid hc0
  have CB := Lib.hid cB
  have CD := Lib.hid cD
  have hl := hd.len
  obtain ⟨ad, cd, rfl, kd, -⟩ := hd.shape
  have d0 := cell_later hc0 hW
  have wl : IntKind.i64.wrap ((d.length : Int) - 1) = (d.length : Int) - 1 := IntWalk.i64_in _ (by omega)
  clear hd hJ hJ0 hY hW hc0 cB cD
  refine callsIn_of_wp Tryz.func141 rfl trivial ?_ rfl
  simp only [Tryz.ntmps141, List.size_toArray, List.length_cons, List.length_nil, Nat.reduceAdd, Nat.reduceSub, Array.replicate_succ, Array.replicate_zero, List.push_toArray, List.append_toArray, List.nil_append, List.cons_append]
  gi_wp2
  gi_loopg [3] d.length (fun m iv wr => m ≤ d.length ∧ iv = .int .i64 ((m : Int) - 1) ∧ J (d.length - m) wr ∧ BelowP c w.heap.size w wr)
  case atStart => exact ⟨Nat.le_refl _, rfl, (by rw [Nat.sub_self]; exact HJ0.out), belowP_of c HWB.out⟩
  case round =>
    obtain ⟨hm, rfl, hj, hbp⟩ := hrel
    have HJM := Lib.hid hj
    have HBP := Lib.hid hbp
    clear hj hbp
    rcases Nat.eq_zero_or_pos gk with h0 | h0
    · subst h0
      have e1 : ((0 : Nat) : Int) - 1 = -1 := rfl
      rw [e1]
      clear e1
      gi_wp2
      go_end0
      exact ⟨⟨_, rfl⟩, HJM.out⟩
    · obtain ⟨q, rfl⟩ : ∃ q, gk = q + 1 := ⟨gk - 1, by omega⟩
      have e1 : ((q + 1 : Nat) : Int) - 1 = (q : Int) := by omega
      rw [e1]
      clear e1 h0
      have hq : q < d.length := by omega
      obtain ⟨g, o, x, ea, hx, hr⟩ := HD.out.at q hq
      subst ea
      obtain ⟨x0, x1, x2⟩ := hr
      have hng := CD.out _ _ _ _ rfl
      have x0 := cellP x0 HBP.out hng
      have x1 := cellP x1 HBP.out hng
      have x2 := cellP x2 HBP.out hng
      have b0 := cellP HC0.out HBP.out CB.out
      have hqi : (0 : Int) ≤ (q : Int) := by omega
      have hql : (q : Int) < (d.length : Int) := by omega
      have hk : d.length - 1 - (d.length - (q + 1)) = q := by omega
      obtain ⟨fn, tmps, assign, body, hy, hR⟩ := HY.out (d.length - (q + 1)) #[.int .i64 (q : Int), dimV x] _ HJM.out (by omega) ⟨x, by rw [hk]; exact hx, by rw [hk]⟩
      have HRR := Lib.hid hR
      have hs : d.length - (q + 1) + 1 = d.length - q := by omega
      have HS := Lib.hid hs
      have HM : Hid (q ≤ d.length) := by show _ ≤ _; omega
      obtain ⟨nm, lo, hi⟩ := x
      simp only at x0 x1 x2 hy HRR
      have wq : IntKind.i64.wrap ((q : Int) - 1) = (q : Int) - 1 := IntWalk.i64_in _ (by omega)
      clear hR hs hk hx
      gi_wp2
      refine HRR.out.mono ?_
      rintro e w3 ⟨rfl, hj3, hb3⟩
      rw [HS.out] at hj3
      have HJ3 := Lib.hid hj3
      have HB3 := Lib.hid (HBP.out.trans hb3)
      clear hj3 hb3 hy HRR x0 x1 x2 b0
      gi_wp2
      gi_roundg q
      case measure => omega
      case rel => exact ⟨HM.out, rfl, HJ3.out, HB3.out⟩
end Go.Proofs.YtpdhlgkcjakcgaaGreatDoor
/- At: both contracts. -/
namespace Go.Proofs.YtpdhlgkcjakcgaaGreatDoor
open Go.RowKit Go.Shelf
attribute [local go_sem] Oper.semAt_some

/-- the coordinates when j dimensions have been done, from the last on -/
def rowA (d : List DimT) (k : Int) (j : Nat) : List Int := List.replicate (d.length - j) 0 ++ (atL k (d.drop (d.length - j))).1
theorem rowA_zero (d : List DimT) (k : Int) : rowA d k 0 = List.replicate d.length 0 := by
  unfold rowA; rw [Nat.sub_zero, List.drop_length, atL, List.append_nil]
theorem rowA_end (d : List DimT) (k : Int) : rowA d k d.length = (atL k d).1 := by
  unfold rowA; rw [Nat.sub_self]; rfl
theorem rowA_length (d : List DimT) (k : Int) (j : Nat) : (rowA d k j).length = d.length := by
  unfold rowA; rw [List.length_append, List.length_replicate, atL_length, List.length_drop]; omega
theorem rep_set : ∀ (q : Nat) (l : List Int) (v : Int), (List.replicate (q + 1) 0 ++ l).set q v = List.replicate q 0 ++ v :: l
  | 0, l, v => rfl
  | q + 1, l, v => by rw [List.replicate_succ, List.cons_append, List.set_cons_succ, rep_set q l v, List.replicate_succ (n := q), List.cons_append]
theorem rowA_set {d : List DimT} {k : Int} {j q : Nat} {x : DimT} (hq : q + 1 + j = d.length) (hx : d[q]? = some x) : (rowA d k j).set q (x.lo + (atL k (d.drop (q + 1))).2 % ext x) = rowA d k (j + 1) := by
  unfold rowA
  rw [show d.length - j = q + 1 from by omega, show d.length - (j + 1) = q from by omega, rep_set, atL_at hx]

/-- what holds between two rounds: the number's block, the row, its box -/
structure AtI (B0 Rb : Nat) (d : List DimT) (k : Int) (W5 : World) (j : Nat) (W : World) : Prop where
  idx : W.cell? ⟨B0, 0, none⟩ = some (.int .i64 (atL k (d.drop (d.length - j))).2)
  fz : W.frozen? ⟨B0, 0, none⟩ = false
  row : RowZ W Rb (rowA d k j)
  box : W.cell? ⟨Rb + 1, 0, none⟩ = some (.slice (some ⟨Rb, 0, none⟩) d.length d.length)
  below : BelowP (fun b => b = B0 ∨ b = Rb) W5.heap.size W5 W
theorem AtI.kept {B0 Rb : Nat} {d : List DimT} {k : Int} {W5 : World} {j : Nat} {A B : World} (h : AtI B0 Rb d k W5 j A) (h0 : B0 < W5.heap.size) (hR : Rb + 1 < W5.heap.size) {row : Option Nat} (hg : A.grownBy B row) (hr : ∀ r, row = some r → W5.heap.size ≤ r) : AtI B0 Rb d k W5 j B := by
  have hs := h.below.size
  have hb : ∀ b, b < W5.heap.size → B.heap[b]? = A.heap[b]? := fun b hb => hg.block b (by omega) (fun e => by have := hr b e.symm; omega)
  refine ⟨(World.cell?_of_block (a := ⟨B0, 0, none⟩) (hb B0 h0)).trans h.idx, (World.frozen?_of_block (a := ⟨B0, 0, none⟩) (hb B0 h0)).trans h.fz, h.row.kept (hb Rb (by omega)), (World.cell?_of_block (a := ⟨Rb + 1, 0, none⟩) (hb (Rb + 1) hR)).trans h.box,
    h.below.trans ⟨hg.os, hg.tape, hg.output, hg.size, fun b hb' _ => hb b hb'⟩⟩
/-- the row's element is put in: the number is still the old one -/
structure AtM (B0 Rb : Nat) (d : List DimT) (k : Int) (W5 W : World) (j : Nat) (Z : World) : Prop where
  idx : Z.cell? ⟨B0, 0, none⟩ = some (.int .i64 (atL k (d.drop (d.length - j))).2)
  fz : Z.frozen? ⟨B0, 0, none⟩ = false
  row : RowZ Z Rb (rowA d k (j + 1))
  box : Z.cell? ⟨Rb + 1, 0, none⟩ = some (.slice (some ⟨Rb, 0, none⟩) d.length d.length)
  below : BelowP (fun b => b = B0 ∨ b = Rb) W5.heap.size W Z
  keeps : KeepsFrom W5.heap.size W Z
theorem AtI.mid {B0 Rb : Nat} {d : List DimT} {k : Int} {W5 W z : World} {j q : Nat} {x : DimT} (h : AtI B0 Rb d k W5 j W) (h0 : B0 < Rb) (hR : Rb + 1 < W5.heap.size) (hb : Below W.heap.size W z) (hq : q + 1 + j = d.length) (hx : d[q]? = some x) {u : Value} (hu : u = .int .i64 (x.lo + (atL k (d.drop (q + 1))).2 % ext x)) :
    AtM B0 Rb d k W5 W j (z.setCell ⟨Rb, q, none⟩ u) := by
  have hi := h.kept (B := z) (by omega) hR (grown_of_below' hb none) (fun r e => by cases e)
  refine ⟨?_, by rw [World.frozen?_setCell]; exact hi.fz, ?_, ?_, ?_, ?_⟩
  · rw [World.cell?_setCell_other _ _ _ _ (fun e => by injection e with e _; omega)]; exact hi.idx
  · have := hi.row.set q _ (by rw [rowA_length]; omega) hu
    rwa [rowA_set hq hx] at this
  · rw [World.cell?_setCell_other _ _ _ _ (fun e => by injection e with e _; omega)]; exact hi.box
  · exact (belowP_of _ (hb.mono h.below.size)).setCell (p := ⟨Rb, q, none⟩) (.inr rfl) u
  · exact (KeepsFrom.of_grownBy (grown_of_below' hb none) (fun j e => by cases e)).trans ((KeepsOthers.setCell _ _ _).from _)
theorem AtM.fin {B0 Rb : Nat} {d : List DimT} {k : Int} {W5 W Z z : World} {j q : Nat} {x : DimT} (h : AtM B0 Rb d k W5 W j Z) (hI : AtI B0 Rb d k W5 j W) (h0 : B0 < Rb) (hR : Rb + 1 < W5.heap.size) (hb : Below Z.heap.size Z z) (hq : q + 1 + j = d.length) (hx : d[q]? = some x) {u : Value} (hu : u = .int .i64 ((atL k (d.drop (q + 1))).2 / ext x)) :
    KeepsFrom W5.heap.size W (z.setCell ⟨B0, 0, none⟩ u) ∧ BelowP (fun b => b = B0 ∨ b = Rb) W5.heap.size W (z.setCell ⟨B0, 0, none⟩ u) ∧ AtI B0 Rb d k W5 (j + 1) (z.setCell ⟨B0, 0, none⟩ u) := by
  have hs : W5.heap.size ≤ Z.heap.size := Nat.le_trans hI.below.size h.below.size
  have hbl : ∀ b, b < W5.heap.size → z.heap[b]? = Z.heap[b]? := fun b hb' => hb.block b (by omega)
  have c0 := (World.cell?_of_block (a := ⟨B0, 0, none⟩) (hbl B0 (by omega))).trans h.idx
  have hB : BelowP (fun b => b = B0 ∨ b = Rb) W5.heap.size W (z.setCell ⟨B0, 0, none⟩ u) := (h.below.trans (belowP_of _ (hb.mono hs))).setCell (p := ⟨B0, 0, none⟩) (.inl rfl) u
  refine ⟨h.keeps.trans ((KeepsFrom.of_grownBy (grown_of_below' hb none) (fun j e => by cases e)).trans ((KeepsOthers.setCell _ _ _).from _)), hB, ?_, ?_, ?_, ?_, hI.below.trans hB⟩
  · rw [World.cell?_setCell_same _ _ _ c0, hu, show d.length - (j + 1) = q from by omega, atL_at hx]
  · rw [World.frozen?_setCell]; exact (World.frozen?_of_block (a := ⟨B0, 0, none⟩) (hbl B0 (by omega))).trans h.fz
  · exact (h.row.kept (hbl Rb (by omega))).kept (Below.heap_setCell z ⟨B0, 0, none⟩ u Rb (show Rb ≠ B0 by omega))
  · rw [World.cell?_setCell_other _ _ _ _ (fun e => by injection e with e _; omega)]
    exact (World.cell?_of_block (a := ⟨Rb + 1, 0, none⟩) (hbl (Rb + 1) (by omega))).trans h.box
/-- what holds while the row's element is put in -/
structure AtX (B0 Rb p : Nat) (d : List DimT) (k r : Int) (x : DimT) (W5 W : World) (j q : Nat) (w : World) : Prop where
  idx : w.cell? ⟨B0, 0, none⟩ = some (.int .i64 r)
  fz : w.frozen? ⟨B0, 0, none⟩ = false
  row : ∃ y, RowZ w Rb ((rowA d k j).set q y)
  box : w.cell? ⟨Rb + 1, 0, none⟩ = some (.slice (some ⟨Rb, 0, none⟩) d.length d.length)
  x0 : w.cell? ⟨p, 0, none⟩ = some (strV x.name)
  x1 : w.cell? ⟨p, 1, none⟩ = some (.int .i64 x.lo)
  x2 : w.cell? ⟨p, 2, none⟩ = some (.int .i64 x.hi)
  below : BelowP (fun b => b = B0 ∨ b = Rb) W5.heap.size W w
  keeps : KeepsFrom W5.heap.size W w
theorem RowZ.lt {w : World} {g : Nat} {l : List Int} (h : RowZ w g l) : g < w.heap.size := h.tag.lt
theorem AtX.later {B0 Rb p : Nat} {d : List DimT} {k r : Int} {x : DimT} {W5 W : World} {j q : Nat} {w w' : World} (h : AtX B0 Rb p d k r x W5 W j q w) (hs : W5.heap.size ≤ W.heap.size) (hb : Below w.heap.size w w') : AtX B0 Rb p d k r x W5 W j q w' := by
  have hsz := h.below.size
  obtain ⟨y, hy⟩ := h.row
  exact ⟨cell_later h.idx hb, (hb.frozen (p := ⟨B0, 0, none⟩) (World.block_lt_of_cell? _ _ h.idx)).trans h.fz, ⟨y, hy.later hb hy.lt⟩, cell_later h.box hb, cell_later h.x0 hb, cell_later h.x1 hb, cell_later h.x2 hb,
    h.below.trans (belowP_of _ (hb.mono (by omega))), h.keeps.trans (KeepsFrom.of_grownBy (grown_of_below' hb none) (fun j e => by cases e))⟩
theorem AtX.store {B0 Rb p : Nat} {d : List DimT} {k r : Int} {x : DimT} {W5 W : World} {j q : Nat} {w : World} (h : AtX B0 Rb p d k r x W5 W j q w) (h0 : B0 < Rb) (hp : Rb < p) (hq : q < d.length) (v : Int) {u : Value} (hu : u = .int .i64 v) :
    AtX B0 Rb p d k r x W5 W j q (w.setCell ⟨Rb, q, none⟩ u) ∧ RowZ (w.setCell ⟨Rb, q, none⟩ u) Rb ((rowA d k j).set q v) := by
  obtain ⟨y, hy⟩ := h.row
  have hr := hy.set q v (by rw [List.length_set, rowA_length]; exact hq) hu
  rw [List.set_set] at hr
  have hc : ∀ g o v, g ≠ Rb → w.cell? ⟨g, o, none⟩ = some v → (w.setCell ⟨Rb, q, none⟩ u).cell? ⟨g, o, none⟩ = some v := fun g o v hg hv => by
    rw [World.cell?_setCell_other _ _ _ _ (fun e => by injection e with e _; exact hg e.symm)]; exact hv
  exact ⟨⟨hc _ _ _ (by omega) h.idx, by rw [World.frozen?_setCell]; exact h.fz, ⟨v, hr⟩, hc _ _ _ (by omega) h.box, hc _ _ _ (by omega) h.x0, hc _ _ _ (by omega) h.x1, hc _ _ _ (by omega) h.x2,
    h.below.setCell (p := ⟨Rb, q, none⟩) (.inr rfl) u, h.keeps.trans ((KeepsOthers.setCell _ _ _).from _)⟩, hr⟩
end Go.Proofs.YtpdhlgkcjakcgaaGreatDoor
