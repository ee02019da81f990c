/- Lemmas and contracts, each under its own condition: A loop over an iterator that keeps a list of its own, whose body writes one block (c) that is older than the iterator's box. The iterator of space.points: its contract where the loop's body writes an older block. -/
import Derived.Test.YtdbnebhehiiakaaGreatDoorS2
import Derived.Test.YtdbnebhehiiakaaGreatDoorS8
namespace Go.Proofs.YtdbnebhehiiakaaGreatDoor
open Go.RowKit Go.Shelf
structure BelowX (c:Option Nat) (B:Nat) (w w':World):Prop where
 os:w'.os=w.os
 tape:w'.tape=w.tape
 output:w'.output=w.output
 size:w.heap.size≤w'.heap.size
 block:∀ k,k<B→c ≠ some k→w'.heap[k]? = w.heap[k]?
theorem belowX_of {B:Nat} {w w':World} (c:Option Nat) (h:Below B w w'):BelowX c B w w':=⟨h.os,h.tape,h.output,h.size,fun k hk _ => h.block k hk⟩
theorem BelowX.trans {c:Option Nat} {B:Nat} {a b d:World} (h:BelowX c B a b) (k:BelowX c B b d):BelowX c B a d :=
 ⟨k.os.trans h.os,k.tape.trans h.tape,k.output.trans h.output,Nat.le_trans h.size k.size,fun i hi hc => (k.block i hi hc).trans (h.block i hi hc)⟩
theorem BelowX.setCell {c:Option Nat} {B:Nat} {a w:World} (h:BelowX c B a w) {p:Addr} (hp:B≤p.block) (u:Value):BelowX c B a (w.setCell p u) :=
 h.trans (belowX_of c ((Below.refl B w).setCell hp u))
theorem cellX {c:Option Nat} {w w':World} {g o:Nat} {v:Value} (h:w.cell? ⟨g,o,none⟩=some v) (hb:BelowX c w.heap.size w w') (hc:c ≠ some g):w'.cell? ⟨g,o,none⟩=some v :=
 (World.cell?_of_block (a:=⟨g,o,none⟩) (hb.block g (World.block_lt_of_cell? _ _ h) hc)).trans h
def SeqX (c:Option Nat) (F:Fence) (n:Nat) (P:Program) (gf:Nat) (lb:Array Value) (N:Nat) (Fr:Nat→Nat→Value→World→Prop) (T:TypeId) (w:World):Prop :=
 ∀ (l:Nat) (J:Nat→Nat→World→Prop) (W:World),Below w.heap.size w W →
  (∀ g k A B,J g k A→W.heap.size≤g→TagB A g T→TagB B g T→A.grownBy B (some g)→J g k B) →
  (∀ g W0,Below W.heap.size W W0→W.heap.size≤g→TagB W0 g T→J g 0 W0) →
  (∀ g k v W1,J g k W1→k<N→W.heap.size≤g→TagB W1 g T→Fr g k v W1→YieldAt F (n - 1) P l #[v] W1 fun e W' =>
   e=.returned (.bool true)∧J g (k+1) W'∧W'.heap[g]? = W1.heap[g]? ∧ BelowX c w.heap.size W1 W') →
  CallsIn F n P gf (#[.func (.yield l) #[] #[]] ++ lb) W fun e W' => (∃ v,e=.returned v)∧∃ g,W.heap.size≤g∧J g N W'
def ptsPostX (c:Option Nat) (B n₀:Nat) (I:Nat→Nat→World→Prop) (g k:Nat) (W:World):Exit→Act→World→Prop
 | .normal,_,W' => KeepsFrom B W W'∧W'.heap[g]? = W.heap[g]? ∧ BelowX c n₀ W W'∧I g k W'
 | _,_,_ => False
variable {F:Fence} {n:Nat} {P:Program}
theorem wpIn_rangeFunc_ptsX {c:Option Nat} {g:Operand} {ps:Array Tmp} {assign body:Code} {Q:Exit→Act→World→Prop} {a:Act} {w:World}
  (hro:F.round=none) (h1:1≤n) {gf:Nat} {lb:Array Value} (hg:a.eval g=.func (.func gf) #[] lb) (hFg:F.fn gf) (eg:∀ args w,(callFunc gf args).run P w=.ok (.enter gf args) w)
  {N:Nat} {Fr:Nat→Nat→Value→World→Prop} {T:TypeId} {w0:World} (hseq:SeqX c F (n - 1) P gf lb N Fr T w0) (hb0:Below w0.heap.size w0 w) (hps:ps.size=1)
  (hFr:∀ g k v A B row,Fr g k v A→A.grownBy B row→(∀ r,row=some r→∃ o:Obj,A.heap[r]? = some o∧o.isCells=false)→Fr g k v B)
  (I:Nat→Nat→World→Prop)
  (hI:∀ g k A B row,I g k A→w.heap.size≤g→TagB A g T→A.grownBy B row→(∀ r,row=some r→r=g ∨ (w.heap.size≤r∧∃ o:Obj,A.heap[r]? = some o∧o.isCells=false))→I g k B)
  (h0:∀ g W0,Below w.heap.size w W0→w.heap.size≤g→TagB W0 g T→I g 0 W0)
  (a₁:Value→Act)
  (hassign:∀ (l:Nat) (v:Value) (W:World) (K:Act→World→Prop),K (a₁ v) W →
   assign.wpIn (F.inRound l) (n - 1 - 1) P (Exit.then K (fun _ _ _ => False)) { tmps:=(ps.zip #[v]).foldl (fun t (p,v) => t.setIfInBounds p v) a.tmps,defers:=[] } W)
  (hbody:∀ (l g k:Nat) (v:Value) (W:World),I g k W→k<N→w.heap.size≤g→TagB W g T→Fr g k v W→body.wpIn (F.inRound l) (n - 1 - 1) P (ptsPostX c w.heap.size w0.heap.size I g (k+1) W) (a₁ v) W)
  (hdone:∀ (D g:Nat) (W:World),w.heap.size≤D→I g N W→W.heap[D]? = some (.deferred (some []))→Q .normal { a with defers:={ target:=.collected D,args:=#[] } :: a.defers } W) :
  (Code.rangeFunc g ps assign body).wpIn F n P Q a w:=by
 refine wpIn_rangeFunc ?_
 intro fn hfn
 rw [hro]
 obtain ⟨rec,hrec⟩:∃ rec:LoopState→Option Code→Loop,rec=fun st pe => { state:=st,pending:=pe,fn,tmps:=a.tmps,params:=ps,assign,body,defers:=w.heap.size }:=⟨_,rfl⟩
 obtain ⟨W1,hW1⟩:∃ W1,(w.alloc (.deferred (some []))).alloc (.loop (rec .ready none))=W1:=⟨_,rfl⟩
 have hL1:W1.heap[w.heap.size+1]? = some (.loop (rec .ready none)):=by
  rw [← hW1]; have:=World.alloc_heap_new (w.alloc (.deferred (some []))) (.loop (rec .ready none)); rwa [World.size_alloc] at this
 have hK1:W1.heap[w.heap.size]? = some (.deferred (some [])):=by
  rw [← hW1]; exact (Below.heap_alloc _ _ _ (by simp)).trans (World.alloc_heap_new w _)
 have hsz1:W1.heap.size=w.heap.size+2:=by rw [← hW1]; simp
 have hw1:Below w.heap.size w W1:=by
  rw [← hW1]; exact ((Below.refl _ w).alloc (Nat.le_refl _) _).alloc (by simp) _
 have hb1:Below w0.heap.size w0 W1:=hb0.trans (hw1.mono hb0.size)
 have hputI:∀ {g k:Nat} {W:World} {l:Nat} {o:Obj} (o':Obj),I g k W→w.heap.size≤g→TagB W g T→w.heap.size≤l→W.heap[l]? = some o→o.isCells=false→I g k (W.putObj l o'):=fun {g k W l o} o' hi hge ht hl ho hc =>
  hI g k W _ (some l) hi hge ht (grownBy_putObj' W l o') (fun r e => by cases e; exact .inr ⟨hl,o,ho,hc⟩)
 refine ⟨w.heap.size+1,[{ target:=.collected w.heap.size,args:=#[] }],W1,{ target:=.fn (.func gf) lb,args:=#[.func (.yield (w.heap.size+1)) #[] #[]] },W1,gf,
  #[.func (.yield (w.heap.size+1)) #[] #[]] ++ lb,W1,?_,?_,?_,?_,fun _ => h1,?_⟩
 ·rw [← hW1,hrec]; exact run_enterLoop_outer _ _ _ _ _
 ·simp only [resolve,hg]
  simp [go_sem]
 ·intro f' hf'; simp [Target.leads] at hf'; subst hf'; exact hFg
 ·simp [invoke,go_sem,eg]
 ·refine (hseq (w.heap.size+1)
   (fun g k W => (I g k W∧TagB W g T)∧W.heap[w.heap.size+1]? = some (.loop (rec .ready none))∧W.heap[w.heap.size]? = some (.deferred (some [])))
   W1 hb1 ?_ ?_ ?_).mono ?_
  ·rintro g k A B ⟨⟨hi,-⟩,hl,hk⟩ hge ht ht' hgr
   have hne:∀ j (o:Obj),A.heap[j]? = some o→o.isCells=false→some j ≠ some g:=fun j o ho hc e => by
    injection e with e
    subst e
    rw [ht.cellsB ho] at hc
    cases hc
   exact ⟨⟨hI g k A B (some g) hi (by omega) ht hgr (fun r e => by cases e; exact .inl rfl),ht'⟩,
    (hgr.block _ (Array.getElem?_eq_some_iff.1 hl).1 (hne _ _ hl rfl)).trans hl,
    (hgr.block _ (Array.getElem?_eq_some_iff.1 hk).1 (hne _ _ hk rfl)).trans hk⟩
  ·intro g W0 hb hge ht
   exact ⟨⟨h0 g W0 (hw1.trans (hb.mono (by omega))) (by omega) ht,ht⟩,(hb.block _ (by omega)).trans hL1,(hb.block _ (by omega)).trans hK1⟩
  ·-- one round
   rintro g k v W ⟨⟨hi,-⟩,hl,hk⟩ hlt hge ht hfr
   have hy:=run_yield (P:=P) (args:=#[v]) hl (by rw [hrec]; simp [hps])
   rw [hrec] at hy
   refine ⟨fn,_,assign,body,hy,roundIn_of_wpIn hfn (hassign _ v W _ ⟨_,run_beginRound hl (by rw [hrec]),?_⟩)⟩
   have hll:w.heap.size+1<W.heap.size:=(Array.getElem?_eq_some_iff.1 hl).1
   have hgne:g ≠ w.heap.size+1:=fun e => by subst e; have:=ht.cellsB hl; cases this
   have hl2:(W.putObj (w.heap.size+1) (.loop { rec .ready none with state:=.busy })).heap[w.heap.size+1]? = some (.loop { rec .ready none with state:=.busy }):=World.putObj_heap_same hll
   have hk2:(W.putObj (w.heap.size+1) (.loop { rec .ready none with state:=.busy })).heap[w.heap.size]? = some (.deferred (some [])):=(World.putObj_heap_other (by omega)).trans hk
   have hg2:(W.putObj (w.heap.size+1) (.loop { rec .ready none with state:=.busy })).heap[g]? = W.heap[g]?:=World.putObj_heap_other (by omega)
   have hb2:Below w0.heap.size W (W.putObj (w.heap.size+1) (.loop { rec .ready none with state:=.busy })):=belowK_b (w:=w) hb0.size _ _ _ _ (by omega) hl rfl rfl
   refine wpIn_mono (hbody _ g k v _ (hputI _ hi (by omega) ht (by omega) hl rfl) hlt (by omega) (ht.kept hg2)
    (hFr g k v W _ (some (w.heap.size+1)) hfr (grownBy_putObj' W _ _) (fun r e => by cases e; exact ⟨_,hl,rfl⟩))) ?_
   rintro e a3 W3 hp
   cases e with
   | normal =>
    obtain ⟨hk3,hg3,hb3,hi3⟩:=hp
    have hl3:=hk3.same _ _ (by omega) hl2 rfl
    have hr:=run_endRound (P:=P) none hl3
    rw [hrec] at hr hl3
    have hg4:(W3.putObj (w.heap.size+1) (.loop (rec .ready none))).heap[g]? = W3.heap[g]?:=World.putObj_heap_other (by omega)
    have ht3:TagB W3 g T:=(ht.kept hg2).kept hg3
    refine ⟨_,_,hr,rfl,⟨⟨?_,?_⟩,?_,?_⟩,?_,?_⟩
    ·exact hputI _ hi3 (by omega) ht3 (by omega) hl3 rfl
    ·have:=ht3.kept hg4
     rw [hrec] at this
     exact this
    ·rw [hrec]
     exact World.putObj_heap_same (Array.getElem?_eq_some_iff.1 hl3).1
    ·exact (World.putObj_heap_other (by omega)).trans (hk3.same _ _ (Nat.le_refl _) hk2 rfl)
    ·rw [hrec] at hg4
     exact hg4.trans (hg3.trans hg2)
    ·exact (belowX_of c hb2).trans (hb3.trans (belowX_of c (belowK_b (w:=w) hb0.size _ _ _ _ (by omega) hl3 rfl rfl)))
   | ret => exact hp.elim
   | exit id => exact hp.elim
   | goto t => exact hp.elim
   | panic ch => exact hp.elim
   | outgrown => exact hp.elim
  ·rintro e W2 ⟨⟨v,rfl⟩,g,hge,⟨hi,ht⟩,hl,hk⟩
   exact ⟨none,_,by have:=run_endLoop (P:=P) hl (by rw [hrec]; simp); rw [hrec] at this; exact this,hdone _ g _ (Nat.le_refl _) (hputI _ hi (by omega) ht (by omega) hl rfl) ((World.putObj_heap_other (by omega)).trans hk)⟩
theorem wpIn_rangeFunc_pts1 {c:Option Nat} {F:Fence} {n:Nat} {P:Program} {g:Operand} {p:Tmp} (s:Tmp) {assign body:Code} {Q:Exit→Act→World→Prop} {a:Act} {w:World}
  (hro:F.round=none) (h1:1≤n) {gf:Nat} {lb:Array Value} (hg:a.eval g=.func (.func gf) #[] lb) (hFg:F.fn gf) (eg:∀ args w,(callFunc gf args).run P w=.ok (.enter gf args) w)
  {N:Nat} {Fr:Nat→Nat→Value→World→Prop} {T:TypeId} {w0:World} (hseq:SeqX c F (n - 1) P gf lb N Fr T w0) (hb0:Below w0.heap.size w0 w)
  (hFr:∀ g k v A B row,Fr g k v A→A.grownBy B row→(∀ r,row=some r→∃ o:Obj,A.heap[r]? = some o∧o.isCells=false)→Fr g k v B)
  (I:Nat→Nat→World→Prop)
  (hI:∀ g k A B row,I g k A→w.heap.size≤g→TagB A g T→A.grownBy B row→(∀ r,row=some r→r=g ∨ (w.heap.size≤r∧∃ o:Obj,A.heap[r]? = some o∧o.isCells=false))→I g k B)
  (h0:∀ g W0,Below w.heap.size w W0→w.heap.size≤g→TagB W0 g T→I g 0 W0)
  (hassign:∀ (l:Nat) (v:Value) (W:World) (K:Act→World→Prop),K { tmps:=(a.tmps.setIfInBounds p v).setIfInBounds s v,defers:=[] } W →
   assign.wpIn (F.inRound l) (n - 1 - 1) P (Exit.then K (fun _ _ _ => False)) { tmps:=a.tmps.setIfInBounds p v,defers:=[] } W)
  (hbody:∀ (l g k:Nat) (v:Value) (W:World),I g k W→k<N→w.heap.size≤g→TagB W g T→Fr g k v W→body.wpIn (F.inRound l) (n - 1 - 1) P (ptsPostX c w.heap.size w0.heap.size I g (k+1) W) { tmps:=(a.tmps.setIfInBounds p v).setIfInBounds s v,defers:=[] } W)
  (hdone:∀ (D g:Nat) (W:World),w.heap.size≤D→I g N W→W.heap[D]? = some (.deferred (some []))→Q .normal { a with defers:={ target:=.collected D,args:=#[] } :: a.defers } W) :
  (Code.rangeFunc g #[p] assign body).wpIn F n P Q a w :=
 wpIn_rangeFunc_ptsX hro h1 hg hFg eg hseq hb0 rfl hFr I hI h0 (fun v => { tmps:=(a.tmps.setIfInBounds p v).setIfInBounds s v,defers:=[] }) (fun l v W K hK => by have:=hassign l v W K hK; simpa using this) hbody hdone
attribute [local go_sem] Oper.semAt_some
set_option maxRecDepth 100000 in
set_option maxHeartbeats 8000000 in
theorem points1X_any (c0:Option Nat) (lo hi:List Int) (vlo vhi:Value) (w:World) (Bb:Nat) (hBb:Bb<w.heap.size) (hc0:w.cell? ⟨Bb,0,none⟩=some vlo) (hc1:w.cell? ⟨Bb,1,none⟩=some vhi) (hlo:Ints w vlo lo) (hhi:Ints w vhi hi) (hw:wideB lo hi)
  (h0:0<lo.length) (h4:lo.length≤1000) (hbl:∀ x ∈ lo,-9223372036854775808≤x) (hbh:∀ x ∈ hi,x≤9223372036854775807)
  (cB:c0 ≠ some Bb) (cL:∀ g o n k,vlo=.slice (some ⟨g,o,none⟩) n k→c0 ≠ some g) (cH:∀ g o n k,vhi=.slice (some ⟨g,o,none⟩) n k→c0 ≠ some g) :
  SeqX c0 Fence.wide 4 Tryz.prog 99 #[.pointer (some ⟨Bb,0,none⟩)] (ptsN lo hi) (FrP lo hi) 3 w:=by
 intro l J W hW hJ hJ0 hY
 have HLO:=Lib.hid hlo
 have HHI:=Lib.hid hhi
 have HW:=Lib.hid hw
 have HJ:=Lib.hid hJ
 have HJ0:=Lib.hid hJ0
 have HY:=Lib.hid hY
 have HL:=Lib.hid (wideB_length hw)
 have HBL:=Lib.hid hbl
 have HBH:=Lib.hid hbh
 have HWB:=Lib.hid hW
 have HC0:=Lib.hid hc0
 have CB:=Lib.hid cB
 have CLL:=Lib.hid cL
 have CHH:=Lib.hid cH
 obtain ⟨al,cl,rfl,kl,-⟩:=hlo.shape
 obtain ⟨ah,ch,rfl,kh,-⟩:=hhi.shape
 rw [← HL.out] at kh HHI hc1
 have d0:=cell_later hc0 hW
 have d1:=cell_later hc1 hW
 have hBW:Bb<W.heap.size:=Nat.lt_of_lt_of_le hBb hW.size
 have CL:=Lib.hid (fun w1 (hb:Below w.heap.size w w1) => clone_any lo (.slice al lo.length cl) w1 (HLO.out.later IntR.lasts hb) h0 (by omega))
 have HC1:=Lib.hid hc1
 clear hlo hhi hw hJ hJ0 hY hbl hbh hW hc0 hc1 cB cL cH
 refine callsIn_of_wp Tryz.func99 rfl trivial ?_ rfl
 simp only [Tryz.ntmps99,List.size_toArray,List.length_cons,List.length_nil,Nat.reduceAdd,Nat.reduceSub,Array.replicate_succ,Array.replicate_zero,List.push_toArray,List.append_toArray,List.nil_append,List.cons_append]
 gi_wp2_with fail
 refine ⟨trivial,?_⟩
 gi_at_call 100
 refine (callsIn_wide.2 (CL.out _ HWB.out)).mono ?_
 rintro e w1 ⟨g,cap,rfl,hg,hcap,hcap2,hrz,hb⟩
 have HB1:=Lib.hid hb
 have HRZ:=Lib.hid hrz
 have HG:=Lib.hid hg
 have HJ1:=Lib.hid (HJ0.out g w1 hb hg hrz.tag)
 have HN0:=Lib.hid (ptsN_pos HW.out)
 have HP0:=Lib.hid (ptsL_zero HW.out)
 clear hb hrz hg d0 d1
 gi_wp2
 gi_loopg [4] (ptsN lo hi) (fun m _ wr => ∃ (k:Nat) (x:List Int),m+k=ptsN lo hi∧Hid ((ptsL lo hi)[k]? = some x)∧RowZ wr g x∧J g k wr∧BelowX c0 w.heap.size w wr)
 case atStart => exact ⟨0,lo,rfl,HP0.out,HRZ.out,HJ1.out,belowX_of c0 (HWB.out.trans (HB1.out.mono HWB.out.size))⟩
 case round =>
  obtain ⟨k,x,hmk,hx,hrx,hj,hbw⟩:=hrel
  have HX:=Lib.hid hx
  have HJK:=Lib.hid hj
  have HRX:=Lib.hid hrx
  have HBW:=Lib.hid hbw
  have hin:=ptsL_in HW.out (List.mem_of_getElem? hx.out)
  have HIN:=Lib.hid hin
  have hxl:x.length=lo.length:=hin.1
  have hkN:k<ptsN lo hi:=by have:=(List.getElem?_eq_some_iff.1 hx.out).1; rwa [ptsL_length] at this
  have CX:=Lib.hid (clone_any x (.slice (some ⟨g,0,none⟩) x.length cap) wr (hrx.ints rfl (by omega) hcap2).ints (by omega) (by omega))
  rw [hxl] at CX
  have HXL:=Lib.hid hxl
  have HGT:Hid (g<wr.heap.size):=hrx.tag.lt
  clear hx hrx hj hbw hin hxl
  gi_wp2_with fail
  refine ⟨trivial,?_⟩
  gi_at_call 100
  refine (callsIn_wide.2 CX.out).mono ?_
  rintro e w2 ⟨gv,capv,rfl,hgv,hcapv,hcapv2,hrv,hb2⟩
  rw [HXL.out] at hcapv
  have HRV:=Lib.hid hrv
  have hj2:=HJ.out g k wr w2 HJK.out (by have:=HG.out; exact this) HRX.out.tag (HRX.out.later hb2 HGT.out).tag (grown_of_below hb2 (some g))
  have HR2:=Lib.hid (HRX.out.later hb2 HGT.out)
  have HB2:=Lib.hid (HBW.out.trans (belowX_of c0 (hb2.mono HBW.out.size)))
  have hfr:FrP lo hi g k (.slice (some ⟨gv,0,none⟩) lo.length capv) w2:=⟨x,HX.out,hrv.ints HXL.out hcapv hcapv2,by
   intro e
   have e2:gv=g:=by simpa [Value.ownBlock] using e
   have h3:g<wr.heap.size:=HGT.out
   omega⟩
  obtain ⟨fn,tmps,assign,body,hy,hR⟩:=HY.out g k _ w2 hj2 hkN HG.out HR2.out.tag hfr
  have HRR:=Lib.hid hR
  rw [HXL.out]
  clear hrv hj2 hb2 hfr hR hgv
  gi_wp2
  refine HRR.out.mono ?_
  rintro e w3 ⟨rfl,hj3,hg3,hb3⟩
  have HR3:=Lib.hid (HR2.out.kept hg3)
  have HJ3:=Lib.hid hj3
  have HB3w:Hid (BelowX c0 w.heap.size w w3):=HB2.out.trans hb3
  clear hj3 hg3 hb3 hy HRR
  gi_wp2
  have hge:w.heap.size≤g:=Nat.le_trans HWB.out.size HG.out
  have hgW:W.heap.size≤g:=HG.out
  have HMK:=Lib.hid hmk
  clear hmk
  refine wpIn_wide.2 ?_
  go_loopg [4] lo.length (fun p iv wy => p≤lo.length∧iv=.int .i64 ((p:Int) - 1)∧Hid (∀ j,p≤j→x[j]? = hi[j]?)∧RowZ wy g (backL lo x p)∧J g (k+1) wy∧BelowX c0 w.heap.size w wy)
  case atStart => exact ⟨Nat.le_refl _,(by simp),(fun j hj => by rw [List.getElem?_eq_none (by rw [HXL.out]; exact hj),List.getElem?_eq_none (by rw [← HL.out]; exact hj)]),(by have:=HR3.out; rwa [← HXL.out,backL_all HXL.out.symm]),HJ3.out,HB3w.out⟩
  case round =>
   obtain ⟨hp,rfl,hsuf,hrp,hjp,hbp⟩:=hrel
   have HSF:=Lib.hid hsuf.out
   have HRP:=Lib.hid hrp
   have HJP:=Lib.hid hjp
   have HBP:=Lib.hid hbp
   clear hsuf hrp hjp hbp
   rcases Nat.eq_zero_or_pos gk with h0 | h0
   ·subst h0
    have hend:Hid (k+1=ptsN lo hi):=by
     have hxh:x=hi:=List.ext_getElem? fun j => HSF.out j (Nat.zero_le _)
     have hn:=ptsL_next HW.out k x HX.out
     rw [nextP_none hxh] at hn
     have:=List.getElem?_eq_none_iff.1 hn.symm
     rw [ptsL_length] at this
     show _=_
     omega
    have e1:((0:Nat):Int) - 1 = -1:=rfl
    rw [e1]
    clear e1 h0
    go_wp2
    go_quiet (fail)
    have HJE:=Lib.hid (HJ.out g (k+1) wr (wr.drewN nq) HJP.out hgW HRP.out.tag HRP.out.tag (grown_of_below (below_drewN' wr nq) _))
    go_wp2
    gi_wp2
    refine bodyPost_ret (results_none rfl _ _ _) rfl ?_
    exact ⟨⟨_,rfl⟩,g,hgW,by rw [← hend.out]; exact HJE.out⟩
   ·obtain ⟨q,rfl⟩:∃ q,gk=q+1:=⟨gk - 1,by omega⟩
    have e1:((q+1:Nat):Int) - 1=(q:Int):=by omega
    rw [e1]
    clear e1 h0
    have hq:q<lo.length:=by omega
    obtain ⟨a,ha⟩:∃ a,x[q]? = some a:=⟨_,List.getElem?_eq_getElem (by rw [HXL.out]; exact hq)⟩
    obtain ⟨gh,oh,b,eh,hb,hrh⟩:=Ls.at HHI.out q (by rw [← HL.out]; exact hq)
    obtain ⟨gl,ol,c,el,hc,hrl⟩:=Ls.at HLO.out q hq
    subst eh el
    have hr:=cellX hrh HBP.out (CHH.out _ _ _ _ rfl)
    have hl:=cellX hrl HBP.out (CLL.out _ _ _ _ rfl)
    rw [Nat.mul_one] at hr hl
    have d1:=cellX HC1.out HBP.out CB.out
    have d0:=cellX HC0.out HBP.out CB.out
    have hcx:=HRP.out.cell q a (backL_get ha)
    have hfz:=HRP.out.free q
    have hab:=HIN.out.2 q a c b ha hc hb
    have hqi:(0:Int)≤(q:Int):=by omega
    have hql:(q:Int)<(lo.length:Int):=by omega
    have HA:=Lib.hid ha
    have HBb:=Lib.hid hb
    have HCc:=Lib.hid hc
    have hbx:=HBH.out b (List.mem_of_getElem? hb)
    have hcx':=HBL.out c (List.mem_of_getElem? hc)
    clear ha hb hc hrh hrl
    by_cases hab2:a=b
    ·subst hab2
     have ht:(a == a)=true:=by simp
     have HSF2:Hid (∀ j,q≤j→x[j]? = hi[j]?):=fun j hj => by
      rcases Nat.eq_or_lt_of_le hj with e | hlt
      ·rw [← e,HA.out,HBb.out]
      ·exact HSF.out j hlt
     clear hab
     go_wp2
     go_quiet (fail)
     have HRD:Hid (RowZ (wr.drewN nq) g (backL lo x (q+1))):=HRP.out.kept rfl
     have hst:=HRD.out.set q c (by rw [backL_length (by rw [HXL.out]) (by rw [HXL.out]; omega),HXL.out]; exact hq) rfl
     rw [backL_set HCc.out HA.out] at hst
     have HST:=Lib.hid hst
     have HJE:=Lib.hid (HJ.out g (k+1) _ _ (HJ.out g (k+1) wr (wr.drewN nq) HJP.out hgW HRP.out.tag HRP.out.tag (grown_of_below (below_drewN' wr nq) _)) hgW HRD.out.tag hst.tag (grown_setG (wr.drewN nq) g q (.int .i64 c)))
     have HBE:=Lib.hid ((HBP.out.trans (belowX_of c0 ((below_drewN' wr nq).mono HBP.out.size))).setCell (p:=⟨g,q,none⟩) hge (.int .i64 c))
     clear hst
     go_wp2
     go_roundg q
     case measure => omega
     case rel => exact ⟨by omega,rfl,HSF2.out,HST.out,HJE.out,HBE.out⟩
    ·have ht:(a == b)=false:=by rw [beq_eq_false_iff_ne]; exact hab2
     have HNX:=Lib.hid (next_at HCc.out HBb.out HA.out (fun j hj => HSF.out j hj) hab2 (by rw [HXL.out,HL.out]))
     have hpn:=ptsL_next HW.out k x HX.out
     rw [HNX.out] at hpn
     have HPN:=Lib.hid hpn.symm
     have ha1:a+1≤9223372036854775807:=by omega
     have ha2 : -9223372036854775808≤a:=by omega
     clear hab2 hpn hab
     go_wp2
     go_quiet (fail)
     go_wp2
     have HRD:Hid (RowZ (wr.drewN nq) g (backL lo x (q+1))):=HRP.out.kept rfl
     have hst:=HRD.out.set q (a+1) (by rw [backL_length (by rw [HXL.out]) (by rw [HXL.out]; omega),HXL.out]; exact hq) rfl
     rw [backL_next HA.out] at hst
     have HST:=Lib.hid hst
     have HJE:=Lib.hid (HJ.out g (k+1) _ _ (HJ.out g (k+1) wr (wr.drewN nq) HJP.out hgW HRP.out.tag HRP.out.tag (grown_of_below (below_drewN' wr nq) _)) hgW HRD.out.tag hst.tag (grown_setG (wr.drewN nq) g q (.int .i64 (a+1))))
     have HBE:=Lib.hid ((HBP.out.trans (belowX_of c0 ((below_drewN' wr nq).mono HBP.out.size))).setCell (p:=⟨g,q,none⟩) hge (.int .i64 (a+1)))
     clear hst
     gi_wp2
     gi_roundg (ptsN lo hi - (k+1))
     case measure => have:=HMK.out; omega
     case rel => exact ⟨k+1,_,by omega,HPN.out,HST.out,HJE.out,HBE.out⟩
end Go.Proofs.YtdbnebhehiiakaaGreatDoor
