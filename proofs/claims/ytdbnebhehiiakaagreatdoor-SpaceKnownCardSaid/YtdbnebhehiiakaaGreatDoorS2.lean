/- Lemmas and contracts, each under its own condition: A loop over an iterator that keeps a list of its own in memory between two rounds: the law for the caller. Slices of integers, dimensions, attributes, values, cells and coordinates as they lie in memory. -/
import Derived.RangeFuncNested
import Derived.RangeFuncBound
import Derived.RangeFuncBox
import Derived.RangeFuncCalls
import Derived.RangeFuncLeaves
import Derived.RangeFuncWrites
import Derived.Shelf.Abstract
import Derived.Shelf.RegionOpen
import Derived.OwnWalkIn
import Derived.TacticsInMore
import Derived.LoopNIn
import Derived.LoopIn
import Derived.Deep.AppendLies
import Derived.Test.YtdbnebhehiiakaaGreatDoorN1
import Derived.Test.YtdbnebhehiiakaaGreatDoorS1
namespace Go.Proofs.YtdbnebhehiiakaaGreatDoor
open Go.RowKit Go.Shelf
def TagB (w:World) (g:Nat) (T:TypeId):Prop:=∃ cs fr,w.heap[g]? = some (.cells cs T fr)
theorem TagB.lt {w:World} {g:Nat} {T:TypeId} (h:TagB w g T):g<w.heap.size:=by
 obtain ⟨cs,fr,h⟩:=h
 exact (Array.getElem?_eq_some_iff.1 h).1
theorem TagB.kept {w w':World} {g:Nat} {T:TypeId} (h:TagB w g T) (hk:w'.heap[g]? = w.heap[g]?):TagB w' g T:=by
 obtain ⟨cs,fr,h⟩:=h
 exact ⟨cs,fr,hk.trans h⟩
theorem TagB.ne {w:World} {g g':Nat} {T T':TypeId} (h:TagB w g T) (h':TagB w g' T') (hT:T ≠ T'):g ≠ g':=by
 obtain ⟨cs,fr,h⟩:=h
 obtain ⟨cs',fr',h'⟩:=h'
 rintro rfl
 rw [h] at h'
 injection h' with h'
 injection h' with _ h2
 exact hT h2
theorem TagB.cellsB {w:World} {g:Nat} {T:TypeId} (h:TagB w g T) {o:Obj} (ho:w.heap[g]? = some o):o.isCells=true:=by
 obtain ⟨cs,fr,h⟩:=h
 rw [h] at ho
 cases ho
 rfl
def SeqB (F:Fence) (n:Nat) (P:Program) (gf:Nat) (lb:Array Value) (N:Nat) (Fr:Nat→Nat→Value→World→Prop) (T:TypeId) (w:World):Prop :=
 ∀ (l:Nat) (J:Nat→Nat→World→Prop) (W:World),Below w.heap.size w W →
  (∀ g k A B,J g k A→W.heap.size≤g→TagB A g T→TagB B g T→A.grownBy B (some g)→J g k B) →
  (∀ g W0,Below W.heap.size W W0→W.heap.size≤g→TagB W0 g T→J g 0 W0) →
  (∀ g k v W1,J g k W1→k<N→W.heap.size≤g→TagB W1 g T→Fr g k v W1→YieldAt F (n - 1) P l #[v] W1 fun e W' =>
   e=.returned (.bool true)∧J g (k+1) W'∧W'.heap[g]? = W1.heap[g]? ∧ Below w.heap.size W1 W') →
  CallsIn F n P gf (#[.func (.yield l) #[] #[]] ++ lb) W fun e W' => (∃ v,e=.returned v)∧∃ g,W.heap.size≤g∧J g N W'
def ptsPost (B n₀:Nat) (I:Nat→Nat→World→Prop) (g k:Nat) (W:World):Exit→Act→World→Prop
 | .normal,_,W' => KeepsFrom B W W'∧W'.heap[g]? = W.heap[g]? ∧ Below n₀ W W'∧I g k W'
 | _,_,_ => False
variable {F:Fence} {n:Nat} {P:Program}
theorem wpIn_rangeFunc_pts {g:Operand} {ps:Array Tmp} {assign body:Code} {Q:Exit→Act→World→Prop} {a:Act} {w:World}
  (hro:F.round=none) (h1:1≤n) {gf:Nat} {lb:Array Value} (hg:a.eval g=.func (.func gf) #[] lb) (hFg:F.fn gf) (eg:∀ args w,(callFunc gf args).run P w=.ok (.enter gf args) w)
  {N:Nat} {Fr:Nat→Nat→Value→World→Prop} {T:TypeId} {w0:World} (hseq:SeqB F (n - 1) P gf lb N Fr T w0) (hb0:Below w0.heap.size w0 w) (hps:ps.size=1)
  (hFr:∀ g k v A B row,Fr g k v A→A.grownBy B row→(∀ r,row=some r→∃ o:Obj,A.heap[r]? = some o∧o.isCells=false)→Fr g k v B)
  (I:Nat→Nat→World→Prop)
  (hI:∀ g k A B row,I g k A→w.heap.size≤g→TagB A g T→A.grownBy B row→(∀ r,row=some r→r=g ∨ (w.heap.size≤r∧∃ o:Obj,A.heap[r]? = some o∧o.isCells=false))→I g k B)
  (h0:∀ g W0,Below w.heap.size w W0→w.heap.size≤g→TagB W0 g T→I g 0 W0)
  (a₁:Value→Act)
  (hassign:∀ (l:Nat) (v:Value) (W:World) (K:Act→World→Prop),K (a₁ v) W →
   assign.wpIn (F.inRound l) (n - 1 - 1) P (Exit.then K (fun _ _ _ => False)) { tmps:=(ps.zip #[v]).foldl (fun t (p,v) => t.setIfInBounds p v) a.tmps,defers:=[] } W)
  (hbody:∀ (l g k:Nat) (v:Value) (W:World),I g k W→k<N→w.heap.size≤g→TagB W g T→Fr g k v W→body.wpIn (F.inRound l) (n - 1 - 1) P (ptsPost w.heap.size w0.heap.size I g (k+1) W) (a₁ v) W)
  (hdone:∀ (D g:Nat) (W:World),w.heap.size≤D→I g N W→W.heap[D]? = some (.deferred (some []))→Q .normal { a with defers:={ target:=.collected D,args:=#[] } :: a.defers } W) :
  (Code.rangeFunc g ps assign body).wpIn F n P Q a w:=by
 refine wpIn_rangeFunc ?_
 intro fn hfn
 rw [hro]
 obtain ⟨rec,hrec⟩:∃ rec:LoopState→Option Code→Loop,rec=fun st pe => { state:=st,pending:=pe,fn,tmps:=a.tmps,params:=ps,assign,body,defers:=w.heap.size }:=⟨_,rfl⟩
 obtain ⟨W1,hW1⟩:∃ W1,(w.alloc (.deferred (some []))).alloc (.loop (rec .ready none))=W1:=⟨_,rfl⟩
 have hL1:W1.heap[w.heap.size+1]? = some (.loop (rec .ready none)):=by
  rw [← hW1]; have:=World.alloc_heap_new (w.alloc (.deferred (some []))) (.loop (rec .ready none)); rwa [World.size_alloc] at this
 have hK1:W1.heap[w.heap.size]? = some (.deferred (some [])):=by
  rw [← hW1]; exact (Below.heap_alloc _ _ _ (by simp)).trans (World.alloc_heap_new w _)
 have hsz1:W1.heap.size=w.heap.size+2:=by rw [← hW1]; simp
 have hw1:Below w.heap.size w W1:=by
  rw [← hW1]; exact ((Below.refl _ w).alloc (Nat.le_refl _) _).alloc (by simp) _
 have hb1:Below w0.heap.size w0 W1:=hb0.trans (hw1.mono hb0.size)
 have hputI:∀ {g k:Nat} {W:World} {l:Nat} {o:Obj} (o':Obj),I g k W→w.heap.size≤g→TagB W g T→w.heap.size≤l→W.heap[l]? = some o→o.isCells=false→I g k (W.putObj l o'):=fun {g k W l o} o' hi hge ht hl ho hc =>
  hI g k W _ (some l) hi hge ht (grownBy_putObj' W l o') (fun r e => by cases e; exact .inr ⟨hl,o,ho,hc⟩)
 refine ⟨w.heap.size+1,[{ target:=.collected w.heap.size,args:=#[] }],W1,{ target:=.fn (.func gf) lb,args:=#[.func (.yield (w.heap.size+1)) #[] #[]] },W1,gf,
  #[.func (.yield (w.heap.size+1)) #[] #[]] ++ lb,W1,?_,?_,?_,?_,fun _ => h1,?_⟩
 ·rw [← hW1,hrec]; exact run_enterLoop_outer _ _ _ _ _
 ·simp only [resolve,hg]
  simp [go_sem]
 ·intro f' hf'; simp [Target.leads] at hf'; subst hf'; exact hFg
 ·simp [invoke,go_sem,eg]
 ·refine (hseq (w.heap.size+1)
   (fun g k W => (I g k W∧TagB W g T)∧W.heap[w.heap.size+1]? = some (.loop (rec .ready none))∧W.heap[w.heap.size]? = some (.deferred (some [])))
   W1 hb1 ?_ ?_ ?_).mono ?_
  ·rintro g k A B ⟨⟨hi,-⟩,hl,hk⟩ hge ht ht' hgr
   have hne:∀ j (o:Obj),A.heap[j]? = some o→o.isCells=false→some j ≠ some g:=fun j o ho hc e => by
    injection e with e
    subst e
    rw [ht.cellsB ho] at hc
    cases hc
   exact ⟨⟨hI g k A B (some g) hi (by omega) ht hgr (fun r e => by cases e; exact .inl rfl),ht'⟩,
    (hgr.block _ (Array.getElem?_eq_some_iff.1 hl).1 (hne _ _ hl rfl)).trans hl,
    (hgr.block _ (Array.getElem?_eq_some_iff.1 hk).1 (hne _ _ hk rfl)).trans hk⟩
  ·intro g W0 hb hge ht
   exact ⟨⟨h0 g W0 (hw1.trans (hb.mono (by omega))) (by omega) ht,ht⟩,(hb.block _ (by omega)).trans hL1,(hb.block _ (by omega)).trans hK1⟩
  ·-- one round
   rintro g k v W ⟨⟨hi,-⟩,hl,hk⟩ hlt hge ht hfr
   have hy:=run_yield (P:=P) (args:=#[v]) hl (by rw [hrec]; simp [hps])
   rw [hrec] at hy
   refine ⟨fn,_,assign,body,hy,roundIn_of_wpIn hfn (hassign _ v W _ ⟨_,run_beginRound hl (by rw [hrec]),?_⟩)⟩
   have hll:w.heap.size+1<W.heap.size:=(Array.getElem?_eq_some_iff.1 hl).1
   have hgne:g ≠ w.heap.size+1:=fun e => by subst e; have:=ht.cellsB hl; cases this
   have hl2:(W.putObj (w.heap.size+1) (.loop { rec .ready none with state:=.busy })).heap[w.heap.size+1]? = some (.loop { rec .ready none with state:=.busy }):=World.putObj_heap_same hll
   have hk2:(W.putObj (w.heap.size+1) (.loop { rec .ready none with state:=.busy })).heap[w.heap.size]? = some (.deferred (some [])):=(World.putObj_heap_other (by omega)).trans hk
   have hg2:(W.putObj (w.heap.size+1) (.loop { rec .ready none with state:=.busy })).heap[g]? = W.heap[g]?:=World.putObj_heap_other (by omega)
   have hb2:Below w0.heap.size W (W.putObj (w.heap.size+1) (.loop { rec .ready none with state:=.busy })):=belowK_b (w:=w) hb0.size _ _ _ _ (by omega) hl rfl rfl
   refine wpIn_mono (hbody _ g k v _ (hputI _ hi (by omega) ht (by omega) hl rfl) hlt (by omega) (ht.kept hg2)
    (hFr g k v W _ (some (w.heap.size+1)) hfr (grownBy_putObj' W _ _) (fun r e => by cases e; exact ⟨_,hl,rfl⟩))) ?_
   rintro e a3 W3 hp
   cases e with
   | normal =>
    obtain ⟨hk3,hg3,hb3,hi3⟩:=hp
    have hl3:=hk3.same _ _ (by omega) hl2 rfl
    have hr:=run_endRound (P:=P) none hl3
    rw [hrec] at hr hl3
    have hg4:(W3.putObj (w.heap.size+1) (.loop (rec .ready none))).heap[g]? = W3.heap[g]?:=World.putObj_heap_other (by omega)
    have ht3:TagB W3 g T:=(ht.kept hg2).kept hg3
    refine ⟨_,_,hr,rfl,⟨⟨?_,?_⟩,?_,?_⟩,?_,?_⟩
    ·exact hputI _ hi3 (by omega) ht3 (by omega) hl3 rfl
    ·have:=ht3.kept hg4
     rw [hrec] at this
     exact this
    ·rw [hrec]
     exact World.putObj_heap_same (Array.getElem?_eq_some_iff.1 hl3).1
    ·exact (World.putObj_heap_other (by omega)).trans (hk3.same _ _ (Nat.le_refl _) hk2 rfl)
    ·rw [hrec] at hg4
     exact hg4.trans (hg3.trans hg2)
    ·exact (hb2.trans hb3).trans (belowK_b (w:=w) hb0.size _ _ _ _ (by omega) hl3 rfl rfl)
   | ret => exact hp.elim
   | exit id => exact hp.elim
   | goto t => exact hp.elim
   | panic ch => exact hp.elim
   | outgrown => exact hp.elim
  ·rintro e W2 ⟨⟨v,rfl⟩,g,hge,⟨hi,ht⟩,hl,hk⟩
   exact ⟨none,_,by have:=run_endLoop (P:=P) hl (by rw [hrec]; simp); rw [hrec] at this; exact this,hdone _ g _ (Nat.le_refl _) (hputI _ hi (by omega) ht (by omega) hl rfl) ((World.putObj_heap_other (by omega)).trans hk)⟩
end Go.Proofs.YtdbnebhehiiakaaGreatDoor
namespace Go.Proofs.YtdbnebhehiiakaaGreatDoor
open Go.RowKit
def Ls {α:Type} (k:Nat) (Rd:World→Nat→Nat→α→Prop) (w:World) (v:Value) (l:List α):Prop :=
 ∃ a cap,v=.slice a l.length cap∧l.length≤cap∧cap≤9223372036854775807∧(0<l.length→∃ g o,a=some ⟨g,o,none⟩∧∀ i x,l[i]? = some x→Rd w g (o+i * k) x)
def Lasts {α:Type} (Rd:World→Nat→Nat→α→Prop):Prop:=∀ (w w':World) (g o:Nat) (x:α),Rd w g o x→Below w.heap.size w w'→Rd w' g o x
theorem cell_later {w w':World} {g o:Nat} {v:Value} (h:w.cell? ⟨g,o,none⟩=some v) (hb:Below w.heap.size w w'):w'.cell? ⟨g,o,none⟩=some v :=
 (hb.cell (p:=⟨g,o,none⟩) (World.block_lt_of_cell? w ⟨g,o,none⟩ h)).trans h
def IntR (w:World) (g o:Nat) (x:Int):Prop:=w.cell? ⟨g,o,none⟩=some (.int .i64 x)
structure DimR (w:World) (g o:Nat) (d:DimT):Prop where
 name:w.cell? ⟨g,o,none⟩=some (.string ⟨d.name.toArray⟩)
 lo:w.cell? ⟨g,o+1,none⟩=some (.int .i64 d.lo)
 hi:w.cell? ⟨g,o+2,none⟩=some (.int .i64 d.hi)
structure AttrR (w:World) (g o:Nat) (a:AttrT):Prop where
 name:w.cell? ⟨g,o,none⟩=some (.string ⟨a.name.toArray⟩)
 ty:w.cell? ⟨g,o+1,none⟩=some (.int .i64 a.ty)
structure ValR (w:World) (g o:Nat) (x:Va):Prop where
 kind:w.cell? ⟨g,o,none⟩=some (.int .i64 x.kind)
 num:w.cell? ⟨g,o+1,none⟩=some (.int .i64 x.num)
 den:w.cell? ⟨g,o+2,none⟩=some (.int .i64 x.den)
 str:w.cell? ⟨g,o+3,none⟩=some (.string ⟨x.str.toArray⟩)
theorem IntR.lasts:Lasts IntR:=fun _ _ _ _ _ h hb => cell_later h hb
theorem DimR.lasts:Lasts DimR:=fun _ _ _ _ _ h hb => ⟨cell_later h.name hb,cell_later h.lo hb,cell_later h.hi hb⟩
theorem AttrR.lasts:Lasts AttrR:=fun _ _ _ _ _ h hb => ⟨cell_later h.name hb,cell_later h.ty hb⟩
theorem ValR.lasts:Lasts ValR:=fun _ _ _ _ _ h hb => ⟨cell_later h.kind hb,cell_later h.num hb,cell_later h.den hb,cell_later h.str hb⟩
theorem Ls.later {α:Type} {k:Nat} {Rd:World→Nat→Nat→α→Prop} (hR:Lasts Rd) {w w':World} {v:Value} {l:List α} (h:Ls k Rd w v l) (hb:Below w.heap.size w w'):Ls k Rd w' v l:=by
 obtain ⟨a,cap,e,h1,h2,h3⟩:=h
 refine ⟨a,cap,e,h1,h2,fun h0 => ?_⟩
 obtain ⟨g,o,ea,hx⟩:=h3 h0
 exact ⟨g,o,ea,fun i x hi => hR _ _ _ _ _ (hx i x hi) hb⟩
abbrev Ints:=Ls 1 IntR
abbrev Dims:=Ls 3 DimR
abbrev Attrs:=Ls 2 AttrR
abbrev Vals:=Ls 4 ValR
structure CellR (w:World) (g o:Nat) (c:CellT):Prop where
 ex:∃ v1 v2,w.cell? ⟨g,o,none⟩=some v1∧w.cell? ⟨g,o+1,none⟩=some v2∧Ints w v1 c.co∧Vals w v2 c.vals
theorem CellR.lasts:Lasts CellR:=fun _ _ _ _ _ ⟨v1,v2,h1,h2,h3,h4⟩ hb => ⟨v1,v2,cell_later h1 hb,cell_later h2 hb,h3.later IntR.lasts hb,h4.later ValR.lasts hb⟩
abbrev CellsA:=Ls 2 CellR
structure RowR (w:World) (g o:Nat) (c:List Int):Prop where
 ex:∃ v1,w.cell? ⟨g,o,none⟩=some v1∧Ints w v1 c
theorem RowR.lasts:Lasts RowR:=fun _ _ _ _ _ ⟨v1,h1,h3⟩ hb => ⟨v1,cell_later h1 hb,h3.later IntR.lasts hb⟩
abbrev RowsI:=Ls 1 RowR
theorem Ls.nil {α:Type} {k:Nat} {Rd:World→Nat→Nat→α→Prop} (w:World) (a:Option Addr) (cap:Nat) (h:cap≤9223372036854775807):Ls (α:=α) k Rd w (.slice a 0 cap) [] :=
 ⟨a,cap,rfl,Nat.zero_le _,h,fun h0 => absurd h0 (Nat.lt_irrefl 0)⟩
theorem Ls.len {α:Type} {k:Nat} {Rd:World→Nat→Nat→α→Prop} {w:World} {v:Value} {l:List α} (h:Ls k Rd w v l):l.length≤9223372036854775807:=by
 obtain ⟨a,cap,e,h1,h2,h3⟩:=h
 omega
theorem Ls.at {α:Type} {k:Nat} {Rd:World→Nat→Nat→α→Prop} {w:World} {a:Option Addr} {n cap:Nat} {l:List α} (h:Ls k Rd w (.slice a n cap) l) (i:Nat) (hi:i<l.length) :
  ∃ g o x,a=some ⟨g,o,none⟩∧l[i]? = some x∧Rd w g (o+i * k) x:=by
 obtain ⟨a',cap',e,h1,h2,h3⟩:=h
 injection e with e1 e2 e3
 subst e1
 obtain ⟨g,o,ea,hx⟩:=h3 (by omega)
 exact ⟨g,o,l[i],ea,List.getElem?_eq_getElem hi,hx i _ (List.getElem?_eq_getElem hi)⟩
theorem Ls.shape {α:Type} {k:Nat} {Rd:World→Nat→Nat→α→Prop} {w:World} {v:Value} {l:List α} (h:Ls k Rd w v l):∃ a cap,v=.slice a l.length cap∧l.length≤cap∧cap≤9223372036854775807:=by
 obtain ⟨a,cap,e,h1,h2,h3⟩:=h
 exact ⟨a,cap,e,h1,h2⟩
def TagV (w:World) (v:Value) (T:TypeId):Prop:=∀ b,v.ownBlock=some b→TagB w b T
theorem TagV.nil (w:World) (n cap:Nat) (T:TypeId):TagV w (.slice none n cap) T:=fun b h => by cases h
theorem TagV.kept {w w':World} {v:Value} {T:TypeId} (h:TagV w v T) (hk:∀ b,v.ownBlock=some b→w'.heap[b]? = w.heap[b]?):TagV w' v T:=fun b hb => (h b hb).kept (hk b hb)
theorem TagV.later {w w':World} {v:Value} {T:TypeId} (h:TagV w v T) (hb:Below w.heap.size w w'):TagV w' v T:=h.kept fun b hbb => hb.block b (h b hbb).lt
def Local {α:Type} (Rd:World→Nat→Nat→α→Prop):Prop:=∀ (w w':World) (g o:Nat) (x:α),Rd w g o x→w'.heap[g]? = w.heap[g]? → Rd w' g o x
theorem IntR.local:Local IntR:=fun _ _ _ _ _ h hb => (World.cell?_of_block hb).trans h
theorem ValR.local:Local ValR:=fun _ _ _ _ _ h hb => ⟨(World.cell?_of_block hb).trans h.kind,(World.cell?_of_block hb).trans h.num,(World.cell?_of_block hb).trans h.den,(World.cell?_of_block hb).trans h.str⟩
theorem Ls.kept {α:Type} {k:Nat} {Rd:World→Nat→Nat→α→Prop} (hR:Local Rd) {w w':World} {v:Value} {l:List α} (h:Ls k Rd w v l) (hk:∀ b,v.ownBlock=some b→w'.heap[b]? = w.heap[b]?):Ls k Rd w' v l:=by
 obtain ⟨a,cap,rfl,h1,h2,h3⟩:=h
 refine ⟨a,cap,rfl,h1,h2,fun h0 => ?_⟩
 obtain ⟨g,o,rfl,hx⟩:=h3 h0
 exact ⟨g,o,rfl,fun i x hi => hR _ _ _ _ _ (hx i x hi) (hk g rfl)⟩
structure IntsO (w:World) (v:Value) (l:List Int):Prop where
 ints:Ints w v l
 tag:TagV w v 3
theorem IntsO.kept {w w':World} {v:Value} {l:List Int} (h:IntsO w v l) (hk:∀ b,v.ownBlock=some b→w'.heap[b]? = w.heap[b]?):IntsO w' v l:=⟨h.ints.kept IntR.local hk,h.tag.kept hk⟩
theorem IntsO.later {w w':World} {v:Value} {l:List Int} (h:IntsO w v l) (hb:Below w.heap.size w w'):IntsO w' v l:=⟨h.ints.later IntR.lasts hb,h.tag.later hb⟩
theorem IntsO.grown {w w':World} {v:Value} {l:List Int} {row:Option Nat} (h:IntsO w v l) (hg:w.grownBy w' row) (hr:∀ r,row=some r→v.ownBlock ≠ some r):IntsO w' v l :=
 h.kept fun b hb => hg.block b (h.tag b hb).lt (fun e => hr b e.symm hb)
structure RowsO (n₀:Nat) (w:World) (v:Value) (l:List (List Int)):Prop where
 ex:∃ vals:List Value,w.ownsRow n₀ 36 1 v l.length vals∧∀ (i:Nat) (x:List Int) (u:Value),l[i]? = some x→vals[i]? = some u→IntsO w u x
theorem ownsRow_tag {w:World} {base:Nat} {e:TypeId} {size:Nat} {v:Value} {n:Nat} {xs:List Value} (h:w.ownsRow base e size v n xs):TagV w v e:=by
 rcases h.2 with ⟨rfl,_⟩ | ⟨g,cap,cur,rfl,_,hg,_⟩
 ·exact TagV.nil _ _ _ _
 ·intro b hb
  cases hb
  exact ⟨cur,(0,0),hg⟩
theorem RowsO.nil (n₀:Nat) (w:World):RowsO n₀ w (.slice none 0 0) []:=⟨[],World.ownsRow_nil _ _ _ _,fun i x u h => by simp at h⟩
theorem RowsO.kept {n₀:Nat} {w w':World} {v:Value} {l:List (List Int)} {row:Option Nat} (h:RowsO n₀ w v l) (hg:w.grownBy w' row) (h1:∀ r,row=some r→v.ownBlock ≠ some r)
  (h2:∀ r,row=some r→¬ TagB w r 3):RowsO n₀ w' v l:=by
 obtain ⟨vals,ho,hx⟩:=h
 refine ⟨vals,ho.kept hg ?_,fun i x u hi hu => (hx i x u hi hu).grown hg fun r e e2 => h2 r e ((hx i x u hi hu).tag r e2)⟩
 cases hv:v.ownBlock with
 | none => exact .inl rfl
 | some b => exact .inr fun e => h1 b e.symm hv
theorem RowsO.later {n₀:Nat} {w w':World} {v:Value} {l:List (List Int)} (h:RowsO n₀ w v l) (hb:Below w.heap.size w w'):RowsO n₀ w' v l :=
 h.kept (row:=none) ⟨hb.os,hb.tape,hb.output,hb.size,fun k hk _ => hb.block k hk⟩ (fun r e => by cases e) (fun r e => by cases e)
theorem RowsO.rows {n₀:Nat} {w:World} {v:Value} {l:List (List Int)} (h:RowsO n₀ w v l):RowsI w v l:=by
 obtain ⟨vals,ho,hx⟩:=h
 have hl:=ho.1
 rw [Nat.mul_one] at hl
 have hc:∀ {g:Nat},v.ownBlock=some g→∀ j u,vals[j]? = some u→w.cell? ((⟨g,0,none⟩:Addr).add j)=some u:=fun hg => ho.cells hg
 rcases ho.2 with ⟨rfl,h0⟩ | ⟨g,cap,cur,rfl,h1,h2,h3,h4,h5,h6⟩
 ·have:l=[]:=List.length_eq_zero_iff.1 h0
  subst this
  exact Ls.nil _ _ _ (by omega)
 ·unfold maxLen at h4
  refine ⟨_,cap,rfl,h3,h4,fun h0 => ⟨g,0,rfl,fun i x hi => ?_⟩⟩
  have hlt:i<vals.length:=by rw [hl]; exact (List.getElem?_eq_some_iff.1 hi).1
  have:=hc (g:=g) rfl i vals[i] (List.getElem?_eq_getElem hlt)
  rw [show (⟨g,0,none⟩:Addr).add i=⟨g,i,none⟩ from by unfold Addr.add; split <;> simp_all] at this
  exact ⟨vals[i],by rw [Nat.zero_add,Nat.mul_one]; exact this,(hx i x _ hi (List.getElem?_eq_getElem hlt)).ints⟩
theorem RowsO.snoc {n₀:Nat} {w w1 w':World} {v v' u:Value} {l:List (List Int)} {x:List Int} {vals:List Value} (hv:∀ (i:Nat) (x:List Int) (u:Value),l[i]? = some x→vals[i]? = some u→IntsO w u x) (hl:vals.length=l.length)
  (hw:Below w.heap.size w w1) (ho:w1.ownsRow n₀ 36 1 v l.length vals) (hn:w'.ownsRow n₀ 36 1 v' (l.length+1) (vals ++ [u])) (hg:w1.grownBy w' v.ownBlock) (hu:IntsO w u x) (hT : 36 ≠ 3):RowsO n₀ w' v' (l ++ [x]):=by
 have hk:∀ u x,IntsO w u x→IntsO w' u x:=fun u x h => (h.later hw).grown hg fun r e e2 => (ownsRow_tag ho r e).ne ((h.later hw).tag r e2) hT rfl
 refine ⟨vals ++ [u],by simpa using hn,fun i y z hi hz => ?_⟩
 by_cases hlt:i<l.length
 ·rw [List.getElem?_append_left hlt] at hi
  rw [List.getElem?_append_left (by omega)] at hz
  exact hk _ _ (hv i y z hi hz)
 ·rw [List.getElem?_append_right (by omega)] at hi hz
  rw [hl] at hz
  have h0:i - l.length=0:=by
   have:=(List.getElem?_eq_some_iff.1 hi).1
   simp at this; omega
  rw [h0] at hi hz
  simp only [List.getElem?_cons_zero,Option.some.injEq] at hi hz
  subst hi hz
  exact hk _ _ hu
end Go.Proofs.YtdbnebhehiiakaaGreatDoor
