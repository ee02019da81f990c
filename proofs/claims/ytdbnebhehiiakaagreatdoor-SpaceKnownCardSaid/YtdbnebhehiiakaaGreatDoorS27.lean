/- Lemmas and contracts, each under its own condition: A loop over an iterator that keeps no block of its own, whose body writes blocks (of which c tells) that are older; the values handed over do not depend on the world. The laws of layer 2: inside, equal, among, layout. -/
import Derived.BigQuiet
import Derived.Test.YtdbnebhehiiakaaGreatDoorS2
import Derived.Test.YtdbnebhehiiakaaGreatDoorS21
import Derived.Test.YtdbnebhehiiakaaGreatDoorS6
import Derived.Test.YtdbnebhehiiakaaGreatDoorSameA
namespace Go.Proofs.YtdbnebhehiiakaaGreatDoor
open Go.RowKit Go.Shelf
structure BelowP (c:Nat→Prop) (B:Nat) (w w':World):Prop where
 os:w'.os=w.os
 tape:w'.tape=w.tape
 output:w'.output=w.output
 size:w.heap.size≤w'.heap.size
 block:∀ k,k<B→¬ c k→w'.heap[k]? = w.heap[k]?
theorem belowP_of {B:Nat} {w w':World} (c:Nat→Prop) (h:Below B w w'):BelowP c B w w':=⟨h.os,h.tape,h.output,h.size,fun k hk _ => h.block k hk⟩
theorem BelowP.trans {c:Nat→Prop} {B:Nat} {a b d:World} (h:BelowP c B a b) (k:BelowP c B b d):BelowP c B a d :=
 ⟨k.os.trans h.os,k.tape.trans h.tape,k.output.trans h.output,Nat.le_trans h.size k.size,fun i hi hc => (k.block i hi hc).trans (h.block i hi hc)⟩
theorem BelowP.setCell {c:Nat→Prop} {B:Nat} {a w:World} (h:BelowP c B a w) {p:Addr} (hp:c p.block) (u:Value):BelowP c B a (w.setCell p u) :=
 h.trans ⟨rfl,rfl,rfl,by simp [World.setCell],fun k hk hc => Below.heap_setCell w p u k (fun e => hc (by rw [e]; exact hp))⟩
theorem cellP {c:Nat→Prop} {w w':World} {g o:Nat} {v:Value} (h:w.cell? ⟨g,o,none⟩=some v) (hb:BelowP c w.heap.size w w') (hc:¬ c g):w'.cell? ⟨g,o,none⟩=some v :=
 (World.cell?_of_block (a:=⟨g,o,none⟩) (hb.block g (World.block_lt_of_cell? _ _ h) hc)).trans h
theorem grown_of_below' {w w':World} (h:Below w.heap.size w w') (row:Option Nat):w.grownBy w' row:=⟨h.os,h.tape,h.output,h.size,fun k hk _ => h.block k hk⟩
def SeqK (c:Nat→Prop) (F:Fence) (n:Nat) (P:Program) (gf:Nat) (lb:Array Value) (N:Nat) (Fr:Nat→Array Value→Prop) (w:World):Prop :=
 ∀ (l:Nat) (J:Nat→World→Prop) (W:World),Below w.heap.size w W →
  (∀ k A B,J k A→A.grownBy B none→J k B) →
  (∀ W0,Below W.heap.size W W0→J 0 W0) →
  (∀ k vs W1,J k W1→k<N→Fr k vs→YieldAt F (n - 1) P l vs W1 fun e W' =>
   e=.returned (.bool true)∧J (k+1) W'∧BelowP c w.heap.size W1 W') →
  CallsIn F n P gf (#[.func (.yield l) #[] #[]] ++ lb) W fun e W' => (∃ v,e=.returned v)∧J N W'
def ptsPostK (c:Nat→Prop) (B n₀:Nat) (I:Nat→World→Prop) (k:Nat) (W:World):Exit→Act→World→Prop
 | .normal,_,W' => KeepsFrom B W W'∧BelowP c n₀ W W'∧I k W'
 | _,_,_ => False
variable {F:Fence} {n:Nat} {P:Program}
theorem wpIn_rangeFunc_seqK {c:Nat→Prop} {g:Operand} {ps:Array Tmp} {assign body:Code} {Q:Exit→Act→World→Prop} {a:Act} {w:World}
  (hro:F.round=none) (h1:1≤n) {gf:Nat} {lb:Array Value} (hg:a.eval g=.func (.func gf) #[] lb) (hFg:F.fn gf) (eg:∀ args w,(callFunc gf args).run P w=.ok (.enter gf args) w)
  {N:Nat} {Fr:Nat→Array Value→Prop} {w0:World} (hseq:SeqK c F (n - 1) P gf lb N Fr w0) (hb0:Below w0.heap.size w0 w) (hps:∀ k vs,Fr k vs→vs.size=ps.size)
  (I:Nat→World→Prop)
  (hI:∀ k A B row,I k A→A.grownBy B row→(∀ r,row=some r→w.heap.size≤r∧∃ o:Obj,A.heap[r]? = some o∧o.isCells=false)→I k B)
  (h0:∀ W0,Below w.heap.size w W0→I 0 W0)
  (S:Nat→Array Value→Act→World→Prop)
  (hS:∀ k vs a' A B row,S k vs a' A→A.grownBy B row→(∀ r,row=some r→w.heap.size≤r∧∃ o:Obj,A.heap[r]? = some o∧o.isCells=false)→S k vs a' B)
  (hassign:∀ (l k:Nat) (vs:Array Value) (W:World) (K:Act→World→Prop),Fr k vs→I k W→(∀ a' W',Below W.heap.size W W'→S k vs a' W'→K a' W') →
   assign.wpIn (F.inRound l) (n - 1 - 1) P (Exit.then K (fun _ _ _ => False)) { tmps:=(ps.zip vs).foldl (fun t (p,v) => t.setIfInBounds p v) a.tmps,defers:=[] } W)
  (hbody:∀ (l k:Nat) (vs:Array Value) (a':Act) (W:World),I k W→k<N→Fr k vs→S k vs a' W→body.wpIn (F.inRound l) (n - 1 - 1) P (ptsPostK c w.heap.size w0.heap.size I (k+1) W) a' W)
  (hdone:∀ (D:Nat) (W:World),w.heap.size≤D→I N W→W.heap[D]? = some (.deferred (some []))→Q .normal { a with defers:={ target:=.collected D,args:=#[] } :: a.defers } W) :
  (Code.rangeFunc g ps assign body).wpIn F n P Q a w:=by
 refine wpIn_rangeFunc ?_
 intro fn hfn
 rw [hro]
 obtain ⟨rec,hrec⟩:∃ rec:LoopState→Option Code→Loop,rec=fun st pe => { state:=st,pending:=pe,fn,tmps:=a.tmps,params:=ps,assign,body,defers:=w.heap.size }:=⟨_,rfl⟩
 obtain ⟨W1,hW1⟩:∃ W1,(w.alloc (.deferred (some []))).alloc (.loop (rec .ready none))=W1:=⟨_,rfl⟩
 have hL1:W1.heap[w.heap.size+1]? = some (.loop (rec .ready none)):=by
  rw [← hW1]; have:=World.alloc_heap_new (w.alloc (.deferred (some []))) (.loop (rec .ready none)); rwa [World.size_alloc] at this
 have hK1:W1.heap[w.heap.size]? = some (.deferred (some [])):=by
  rw [← hW1]; exact (Below.heap_alloc _ _ _ (by simp)).trans (World.alloc_heap_new w _)
 have hsz1:W1.heap.size=w.heap.size+2:=by rw [← hW1]; simp
 have hw1:Below w.heap.size w W1:=by
  rw [← hW1]; exact ((Below.refl _ w).alloc (Nat.le_refl _) _).alloc (by simp) _
 have hb1:Below w0.heap.size w0 W1:=hb0.trans (hw1.mono hb0.size)
 have hputI:∀ {k:Nat} {W:World} {l:Nat} {o:Obj} (o':Obj),I k W→w.heap.size≤l→W.heap[l]? = some o→o.isCells=false→I k (W.putObj l o'):=fun {k W l o} o' hi hl ho hc =>
  hI k W _ (some l) hi (grownBy_putObj' W l o') (fun r e => by cases e; exact ⟨hl,o,ho,hc⟩)
 refine ⟨w.heap.size+1,[{ target:=.collected w.heap.size,args:=#[] }],W1,{ target:=.fn (.func gf) lb,args:=#[.func (.yield (w.heap.size+1)) #[] #[]] },W1,gf,
  #[.func (.yield (w.heap.size+1)) #[] #[]] ++ lb,W1,?_,?_,?_,?_,fun _ => h1,?_⟩
 ·rw [← hW1,hrec]; exact run_enterLoop_outer _ _ _ _ _
 ·simp only [resolve,hg]
  simp [go_sem]
 ·intro f' hf'; simp [Target.leads] at hf'; subst hf'; exact hFg
 ·simp [invoke,go_sem,eg]
 ·refine (hseq (w.heap.size+1)
   (fun k W => I k W∧W.heap[w.heap.size+1]? = some (.loop (rec .ready none))∧W.heap[w.heap.size]? = some (.deferred (some [])))
   W1 hb1 ?_ ?_ ?_).mono ?_
  ·rintro k A B ⟨hi,hl,hk⟩ hgr
   exact ⟨hI k A B none hi hgr (fun r e => by cases e),
    (hgr.block _ (Array.getElem?_eq_some_iff.1 hl).1 (fun e => by cases e)).trans hl,
    (hgr.block _ (Array.getElem?_eq_some_iff.1 hk).1 (fun e => by cases e)).trans hk⟩
  ·intro W0 hb
   exact ⟨h0 W0 (hw1.trans (hb.mono (by omega))),(hb.block _ (by omega)).trans hL1,(hb.block _ (by omega)).trans hK1⟩
  ·-- one round
   rintro k vs W ⟨hi,hl,hk⟩ hlt hfr
   have hy:=run_yield (P:=P) (args:=vs) hl (by rw [hrec]; exact hps k vs hfr)
   rw [hrec] at hy
   refine ⟨fn,_,assign,body,hy,roundIn_of_wpIn hfn (hassign _ k vs W _ hfr hi fun a' V hbv hsv => ?_)⟩
   have hl':V.heap[w.heap.size+1]? = some (.loop (rec .ready none)):=(hbv.block _ (Array.getElem?_eq_some_iff.1 hl).1).trans hl
   have hk':V.heap[w.heap.size]? = some (.deferred (some [])):=(hbv.block _ (Array.getElem?_eq_some_iff.1 hk).1).trans hk
   have hiV:I k V:=hI k W V none hi (grown_of_below' hbv none) (fun r e => by cases e)
   refine ⟨_,run_beginRound hl' (by rw [hrec]),?_⟩
   have hll:w.heap.size+1<V.heap.size:=(Array.getElem?_eq_some_iff.1 hl').1
   have hl2:(V.putObj (w.heap.size+1) (.loop { rec .ready none with state:=.busy })).heap[w.heap.size+1]? = some (.loop { rec .ready none with state:=.busy }):=World.putObj_heap_same hll
   have hk2:(V.putObj (w.heap.size+1) (.loop { rec .ready none with state:=.busy })).heap[w.heap.size]? = some (.deferred (some [])):=(World.putObj_heap_other (by omega)).trans hk'
   have hb2:Below w0.heap.size V (V.putObj (w.heap.size+1) (.loop { rec .ready none with state:=.busy })):=belowK_b (w:=w) hb0.size _ _ _ _ (by omega) hl' rfl rfl
   have hWB:w0.heap.size≤W.heap.size:=by
    have h1:=(Array.getElem?_eq_some_iff.1 hl).1
    have h2:=hb0.size
    omega
   have hb3:BelowP c w0.heap.size W V:=belowP_of c (hbv.mono hWB)
   refine wpIn_mono (hbody _ k vs a' _ (hputI _ hiV (by omega) hl' rfl) hlt hfr (hS k vs a' V _ (some (w.heap.size+1)) hsv (grownBy_putObj' V _ _) (fun r e => by cases e; exact ⟨by omega,_,hl',rfl⟩))) ?_
   rintro e a3 W3 hp
   cases e with
   | normal =>
    obtain ⟨hk3,hb4,hi3⟩:=hp
    have hl3:=hk3.same _ _ (by omega) hl2 rfl
    have hr:=run_endRound (P:=P) none hl3
    rw [hrec] at hr hl3
    refine ⟨_,_,hr,rfl,⟨?_,?_,?_⟩,?_⟩
    ·exact hputI _ hi3 (by omega) hl3 rfl
    ·rw [hrec]
     exact World.putObj_heap_same (Array.getElem?_eq_some_iff.1 hl3).1
    ·exact (World.putObj_heap_other (by omega)).trans (hk3.same _ _ (Nat.le_refl _) hk2 rfl)
    ·exact hb3.trans ((belowP_of c hb2).trans (hb4.trans (belowP_of c (belowK_b (w:=w) hb0.size _ _ _ _ (by omega) hl3 rfl rfl))))
   | ret => exact hp.elim
   | exit id => exact hp.elim
   | goto t => exact hp.elim
   | panic ch => exact hp.elim
   | outgrown => exact hp.elim
  ·rintro e W2 ⟨⟨v,rfl⟩,hi,hl,hk⟩
   exact ⟨none,_,by have:=run_endLoop (P:=P) hl (by rw [hrec]; simp); rw [hrec] at this; exact this,hdone _ _ (Nat.le_refl _) (hputI _ hi (by omega) hl rfl) ((World.putObj_heap_other (by omega)).trans hk)⟩
theorem wpIn_rangeFunc_seqK2 {c:Nat→Prop} {g:Operand} {p1 p2:Tmp} (s1 s2:Tmp) {assign body:Code} {Q:Exit→Act→World→Prop} {a:Act} {w:World}
  (hro:F.round=none) (h1:1≤n) {gf:Nat} {lb:Array Value} (hg:a.eval g=.func (.func gf) #[] lb) (hFg:F.fn gf) (eg:∀ args w,(callFunc gf args).run P w=.ok (.enter gf args) w)
  {N:Nat} {Fr:Nat→Array Value→Prop} {w0:World} (hseq:SeqK c F (n - 1) P gf lb N Fr w0) (hb0:Below w0.heap.size w0 w) (hps:∀ k vs,Fr k vs→∃ v1 v2,vs=#[v1,v2])
  (I:Nat→World→Prop)
  (hI:∀ k A B row,I k A→A.grownBy B row→(∀ r,row=some r→w.heap.size≤r∧∃ o:Obj,A.heap[r]? = some o∧o.isCells=false)→I k B)
  (h0:∀ W0,Below w.heap.size w W0→I 0 W0)
  (S:Nat→Value→Value→Nat→World→Prop)
  (hS:∀ k v1 v2 p A B row,S k v1 v2 p A→A.grownBy B row→(∀ r,row=some r→w.heap.size≤r∧∃ o:Obj,A.heap[r]? = some o∧o.isCells=false)→S k v1 v2 p B)
  (hassign:∀ (l k:Nat) (v1 v2:Value) (W:World) (K:Act→World→Prop),Fr k #[v1,v2]→I k W →
   (∀ p W',Below W.heap.size W W'→S k v1 v2 p W'→K { tmps:=(((a.tmps.setIfInBounds p1 v1).setIfInBounds p2 v2).setIfInBounds s1 v1).setIfInBounds s2 (.pointer (some ⟨p,0,none⟩)),defers:=[] } W') →
   assign.wpIn (F.inRound l) (n - 1 - 1) P (Exit.then K (fun _ _ _ => False)) { tmps:=(a.tmps.setIfInBounds p1 v1).setIfInBounds p2 v2,defers:=[] } W)
  (hbody:∀ (l k:Nat) (v1 v2:Value) (p:Nat) (W:World),I k W→k<N→Fr k #[v1,v2]→S k v1 v2 p W →
   body.wpIn (F.inRound l) (n - 1 - 1) P (ptsPostK c w.heap.size w0.heap.size I (k+1) W) { tmps:=(((a.tmps.setIfInBounds p1 v1).setIfInBounds p2 v2).setIfInBounds s1 v1).setIfInBounds s2 (.pointer (some ⟨p,0,none⟩)),defers:=[] } W)
  (hdone:∀ (D:Nat) (W:World),w.heap.size≤D→I N W→W.heap[D]? = some (.deferred (some []))→Q .normal { a with defers:={ target:=.collected D,args:=#[] } :: a.defers } W) :
  (Code.rangeFunc g #[p1,p2] assign body).wpIn F n P Q a w:=by
 refine wpIn_rangeFunc_seqK hro h1 hg hFg eg hseq hb0 (fun k vs h => by obtain ⟨v1,v2,rfl⟩:=hps k vs h; rfl) I hI h0
  (fun k vs a' W => ∃ v1 v2 p,vs=#[v1,v2]∧a'={ tmps:=(((a.tmps.setIfInBounds p1 v1).setIfInBounds p2 v2).setIfInBounds s1 v1).setIfInBounds s2 (.pointer (some ⟨p,0,none⟩)),defers:=[] }∧S k v1 v2 p W)
  ?_ ?_ ?_ hdone
 ·rintro k vs a' A B row ⟨v1,v2,p,e1,e2,h⟩ hg hr
  exact ⟨v1,v2,p,e1,e2,hS k v1 v2 p A B row h hg hr⟩
 ·intro l k vs W K hfr hi hK
  obtain ⟨v1,v2,rfl⟩:=hps k vs hfr
  have:=hassign l k v1 v2 W K hfr hi (fun p W' hb hs => hK _ _ hb ⟨v1,v2,p,rfl,rfl,hs⟩)
  simpa using this
 ·rintro l k vs a' W hi hk hfr ⟨v1,v2,p,rfl,rfl,hs⟩
  exact hbody l k v1 v2 p W hi hk hfr hs
end Go.Proofs.YtdbnebhehiiakaaGreatDoor
namespace Go.Proofs.YtdbnebhehiiakaaGreatDoor
open Go.RowKit
set_option maxHeartbeats 1600000 in
theorem lequal_any (a b:List Int) (v u:Value) (w:World) (ha:Ints w v a) (hb:Ints w u b) :
  Calls Tryz.prog 17 #[v,u] w (RetDr (.bool (decide (a=b))) w):=by
 have HA:=Lib.hid ha
 have HB:=Lib.hid hb
 have hla:=ha.len
 obtain ⟨p,cap,rfl,c1,c2⟩:=ha.shape
 obtain ⟨p',cap',rfl,c1',c2'⟩:=hb.shape
 by_cases hl:a.length=b.length
 ·obtain ⟨R,hR⟩:∃ R,R=decide (a=b):=⟨_,rfl⟩
  rw [← hR]
  have HR:=Lib.hid hR
  have HL:=Lib.hid hl
  rw [← hl] at HB ⊢
  clear ha hb hl hR c1'
  go_enter Tryz.func17,Tryz.ntmps17
  go_wp2
  go_loopw [5] (fun iv wr => ∃ (i nq:Nat),i≤a.length∧iv=.int .i64 (i:Nat)∧Hid (a.take i=b.take i)∧wr=w.drewN nq) (fun iv _ => a.length - (intOf iv).toNat)
  case atStart => exact ⟨0,0,Nat.zero_le _,rfl,rfl,rfl⟩
  case round =>
   obtain ⟨i,n0,hi,rfl,HT,rfl⟩:=hrel
   by_cases hlt:i<a.length
   ·obtain ⟨g,o,x,ea,hx,hr⟩:=HA.out.at i hlt
    obtain ⟨g',o',y,ea',hy,hr'⟩:=HB.out.at i (by rw [← HL.out]; exact hlt)
    subst ea ea'
    rw [Nat.mul_one] at hr hr'
    unfold IntR at hr hr'
    have i0:(0:Int)≤(i:Int):=by omega
    have i1:(i:Int)<(a.length:Int):=by omega
    have HX:=Lib.hid hx
    have HY:=Lib.hid hy
    clear hx hy
    by_cases hxy:x=y
    ·have hb1:(x != y)=false:=by simp [hxy]
     have HT2:Hid (a.take (i+1)=b.take (i+1)):=by show _=_; rw [take_snoc' HX.out,take_snoc' HY.out,HT.out,hxy]
     clear hxy
     go_wp2
     go_quiet (fail)
     go_wp2
     exact ⟨⟨i+1,_,by omega,by go_num,HT2.out,rfl⟩,by show a.length - _<a.length - _; simp [intOf]; omega⟩
    ·have hb1:(x != y)=true:=by rw [bne_iff_ne]; exact hxy
     have HRR:Hid (R=false):=by
      show _=_
      rw [HR.out]
      apply decide_eq_false
      intro e
      subst e
      have:=HX.out.symm.trans HY.out
      exact hxy (Option.some.inj this)
     clear hxy
     go_wp2
     go_quiet (fail)
     go_wp2
     go_ret
     rw [HRR.out]
     refine ⟨rfl,n0+nq,?_⟩
     first | rfl | rw [World.drewN_drewN]
   ·obtain rfl:i=a.length:=by omega
    have HRR:Hid (R=true):=by
     show _=_
     rw [HR.out]
     apply decide_eq_true
     have:=HT.out
     rwa [List.take_length,HL.out,List.take_length] at this
    go_wp2
    go_ret
    rw [HRR.out]
    exact ⟨rfl,_,rfl⟩
 ·have hl':¬ ((a.length:Int)=b.length):=by omega
  have e:decide (a=b)=false:=decide_eq_false (fun e => hl (by rw [e]))
  rw [e]
  clear ha hb hl e
  go_enter Tryz.func17,Tryz.ntmps17
  go_wp2
  go_ret
  exact ⟨rfl,0,rfl⟩
end Go.Proofs.YtdbnebhehiiakaaGreatDoor
