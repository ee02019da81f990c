/- Lemmas and contracts, each under its own condition: slices.Backward over dimensions: the iterator's contract. At: both contracts. -/
import Derived.Outline
import Derived.IntWalk
import Derived.BigQuiet
import Derived.Deep.RegionHeld3
import Derived.Deep.DeepCutAuto
import Derived.Deep.CutBlock
import Derived.Test.YtdbnebhehiiakaaGreatDoorS24
import Derived.Test.YtdbnebhehiiakaaGreatDoorS27
import Derived.Test.YtdbnebhehiiakaaGreatDoorS8
namespace Go.Proofs.YtdbnebhehiiakaaGreatDoor
open Go.RowKit Go.Shelf
attribute [local go_sem] Oper.semAt_some
def FrB (d:List DimT) (k:Nat) (vs:Array Value):Prop:=∃ x,d[d.length - 1 - k]? = some x∧vs=#[.int .i64 ((d.length - 1 - k:Nat):Int),dimV x]
theorem backward_any (p:Option Addr) (n k:Nat) (w:World) :
  Calls Tryz.prog 56 #[.slice p n k] w (fun e w' => e=.returned (.func (.func 97) #[] #[.pointer (some ⟨w.heap.size,0,none⟩)])∧w'=w.alloc (.cells #[.slice p n k] 22)):=by
 go_enter Tryz.func56,Tryz.ntmps56
 go_wp2
 go_ret
 exact ⟨rfl,rfl⟩
set_option maxRecDepth 100000 in
set_option maxHeartbeats 8000000 in
theorem backward1_any (c:Nat→Prop) (d:List DimT) (vd:Value) (w:World) (Bb:Nat) (hc0:w.cell? ⟨Bb,0,none⟩=some vd) (hd:Dims w vd d) (h4:d.length≤1000)
  (cB:¬ c Bb) (cD:∀ g o n k,vd=.slice (some ⟨g,o,none⟩) n k→¬ c g) :
  SeqK c Fence.wide 4 Tryz.prog 97 #[.pointer (some ⟨Bb,0,none⟩)] d.length (FrB d) w:=by
 intro l J W hW hJ hJ0 hY
 have HD:=Lib.hid hd
 have HJ0:=Lib.hid (hJ0 W (Below.refl _ _))
 have HY:=Lib.hid hY
 have HWB:=Lib.hid hW
 have HC0:=Lib.hid hc0
 have CB:=Lib.hid cB
 have CD:=Lib.hid cD
 have hl:=hd.len
 obtain ⟨ad,cd,rfl,kd,-⟩:=hd.shape
 have d0:=cell_later hc0 hW
 have wl:IntKind.i64.wrap ((d.length:Int) - 1)=(d.length:Int) - 1:=IntWalk.i64_in _ (by omega)
 clear hd hJ hJ0 hY hW hc0 cB cD
 refine callsIn_of_wp Tryz.func97 rfl trivial ?_ rfl
 simp only [Tryz.ntmps97,List.size_toArray,List.length_cons,List.length_nil,Nat.reduceAdd,Nat.reduceSub,Array.replicate_succ,Array.replicate_zero,List.push_toArray,List.append_toArray,List.nil_append,List.cons_append]
 gi_wp2
 gi_loopg [3] d.length (fun m iv wr => m≤d.length∧iv=.int .i64 ((m:Int) - 1)∧J (d.length - m) wr∧BelowP c w.heap.size w wr)
 case atStart => exact ⟨Nat.le_refl _,rfl,(by rw [Nat.sub_self]; exact HJ0.out),belowP_of c HWB.out⟩
 case round =>
  obtain ⟨hm,rfl,hj,hbp⟩:=hrel
  have HJM:=Lib.hid hj
  have HBP:=Lib.hid hbp
  clear hj hbp
  rcases Nat.eq_zero_or_pos gk with h0 | h0
  ·subst h0
   have e1:((0:Nat):Int) - 1 = -1:=rfl
   rw [e1]
   clear e1
   gi_wp2
   go_end0
   exact ⟨⟨_,rfl⟩,HJM.out⟩
  ·obtain ⟨q,rfl⟩:∃ q,gk=q+1:=⟨gk - 1,by omega⟩
   have e1:((q+1:Nat):Int) - 1=(q:Int):=by omega
   rw [e1]
   clear e1 h0
   have hq:q<d.length:=by omega
   obtain ⟨g,o,x,ea,hx,hr⟩:=HD.out.at q hq
   subst ea
   obtain ⟨x0,x1,x2⟩:=hr
   have hng:=CD.out _ _ _ _ rfl
   have x0:=cellP x0 HBP.out hng
   have x1:=cellP x1 HBP.out hng
   have x2:=cellP x2 HBP.out hng
   have b0:=cellP HC0.out HBP.out CB.out
   have hqi:(0:Int)≤(q:Int):=by omega
   have hql:(q:Int)<(d.length:Int):=by omega
   have hk:d.length - 1 - (d.length - (q+1))=q:=by omega
   obtain ⟨fn,tmps,assign,body,hy,hR⟩:=HY.out (d.length - (q+1)) #[.int .i64 (q:Int),dimV x] _ HJM.out (by omega) ⟨x,by rw [hk]; exact hx,by rw [hk]⟩
   have HRR:=Lib.hid hR
   have hs:d.length - (q+1)+1=d.length - q:=by omega
   have HS:=Lib.hid hs
   have HM:Hid (q≤d.length):=by show _≤_; omega
   obtain ⟨nm,lo,hi⟩:=x
   simp only at x0 x1 x2 hy HRR
   have wq:IntKind.i64.wrap ((q:Int) - 1)=(q:Int) - 1:=IntWalk.i64_in _ (by omega)
   clear hR hs hk hx
   gi_wp2
   refine HRR.out.mono ?_
   rintro e w3 ⟨rfl,hj3,hb3⟩
   rw [HS.out] at hj3
   have HJ3:=Lib.hid hj3
   have HB3:=Lib.hid (HBP.out.trans hb3)
   clear hj3 hb3 hy HRR x0 x1 x2 b0
   gi_wp2
   gi_roundg q
   case measure => omega
   case rel => exact ⟨HM.out,rfl,HJ3.out,HB3.out⟩
attribute [local go_sem] Oper.semAt_some
def rowA (d:List DimT) (k:Int) (j:Nat):List Int:=List.replicate (d.length - j) 0 ++ (atL k (d.drop (d.length - j))).1
theorem rowA_zero (d:List DimT) (k:Int):rowA d k 0=List.replicate d.length 0:=by
 unfold rowA; rw [Nat.sub_zero,List.drop_length,atL,List.append_nil]
theorem rowA_end (d:List DimT) (k:Int):rowA d k d.length=(atL k d).1:=by
 unfold rowA; rw [Nat.sub_self]; rfl
theorem rowA_length (d:List DimT) (k:Int) (j:Nat):(rowA d k j).length=d.length:=by
 unfold rowA; rw [List.length_append,List.length_replicate,atL_length,List.length_drop]; omega
theorem rep_set:∀ (q:Nat) (l:List Int) (v:Int),(List.replicate (q+1) 0 ++ l).set q v=List.replicate q 0 ++ v :: l
 | 0,l,v => rfl
 | q+1,l,v => by rw [List.replicate_succ,List.cons_append,List.set_cons_succ,rep_set q l v,List.replicate_succ (n:=q),List.cons_append]
theorem rowA_set {d:List DimT} {k:Int} {j q:Nat} {x:DimT} (hq:q+1+j=d.length) (hx:d[q]? = some x):(rowA d k j).set q (x.lo+(atL k (d.drop (q+1))).2 % ext x)=rowA d k (j+1):=by
 unfold rowA
 rw [show d.length - j=q+1 from by omega,show d.length - (j+1)=q from by omega,rep_set,atL_at hx]
structure AtI (B0 Rb:Nat) (d:List DimT) (k:Int) (W5:World) (j:Nat) (W:World):Prop where
 idx:W.cell? ⟨B0,0,none⟩=some (.int .i64 (atL k (d.drop (d.length - j))).2)
 fz:W.frozen? ⟨B0,0,none⟩=false
 row:RowZ W Rb (rowA d k j)
 box:W.cell? ⟨Rb+1,0,none⟩=some (.slice (some ⟨Rb,0,none⟩) d.length d.length)
 below:BelowP (fun b => b=B0 ∨ b=Rb) W5.heap.size W5 W
theorem AtI.kept {B0 Rb:Nat} {d:List DimT} {k:Int} {W5:World} {j:Nat} {A B:World} (h:AtI B0 Rb d k W5 j A) (h0:B0<W5.heap.size) (hR:Rb+1<W5.heap.size) {row:Option Nat} (hg:A.grownBy B row) (hr:∀ r,row=some r→W5.heap.size≤r):AtI B0 Rb d k W5 j B:=by
 have hs:=h.below.size
 have hb:∀ b,b<W5.heap.size→B.heap[b]? = A.heap[b]?:=fun b hb => hg.block b (by omega) (fun e => by have:=hr b e.symm; omega)
 refine ⟨(World.cell?_of_block (a:=⟨B0,0,none⟩) (hb B0 h0)).trans h.idx,(World.frozen?_of_block (a:=⟨B0,0,none⟩) (hb B0 h0)).trans h.fz,h.row.kept (hb Rb (by omega)),(World.cell?_of_block (a:=⟨Rb+1,0,none⟩) (hb (Rb+1) hR)).trans h.box,
  h.below.trans ⟨hg.os,hg.tape,hg.output,hg.size,fun b hb' _ => hb b hb'⟩⟩
structure AtM (B0 Rb:Nat) (d:List DimT) (k:Int) (W5 W:World) (j:Nat) (Z:World):Prop where
 idx:Z.cell? ⟨B0,0,none⟩=some (.int .i64 (atL k (d.drop (d.length - j))).2)
 fz:Z.frozen? ⟨B0,0,none⟩=false
 row:RowZ Z Rb (rowA d k (j+1))
 box:Z.cell? ⟨Rb+1,0,none⟩=some (.slice (some ⟨Rb,0,none⟩) d.length d.length)
 below:BelowP (fun b => b=B0 ∨ b=Rb) W5.heap.size W Z
 keeps:KeepsFrom W5.heap.size W Z
theorem AtM.fin {B0 Rb:Nat} {d:List DimT} {k:Int} {W5 W Z z:World} {j q:Nat} {x:DimT} (h:AtM B0 Rb d k W5 W j Z) (hI:AtI B0 Rb d k W5 j W) (h0:B0<Rb) (hR:Rb+1<W5.heap.size) (hb:Below Z.heap.size Z z) (hq:q+1+j=d.length) (hx:d[q]? = some x) {u:Value} (hu:u=.int .i64 ((atL k (d.drop (q+1))).2 / ext x)) :
  KeepsFrom W5.heap.size W (z.setCell ⟨B0,0,none⟩ u)∧BelowP (fun b => b=B0 ∨ b=Rb) W5.heap.size W (z.setCell ⟨B0,0,none⟩ u)∧AtI B0 Rb d k W5 (j+1) (z.setCell ⟨B0,0,none⟩ u):=by
 have hs:W5.heap.size≤Z.heap.size:=Nat.le_trans hI.below.size h.below.size
 have hbl:∀ b,b<W5.heap.size→z.heap[b]? = Z.heap[b]?:=fun b hb' => hb.block b (by omega)
 have c0:=(World.cell?_of_block (a:=⟨B0,0,none⟩) (hbl B0 (by omega))).trans h.idx
 have hB:BelowP (fun b => b=B0 ∨ b=Rb) W5.heap.size W (z.setCell ⟨B0,0,none⟩ u):=(h.below.trans (belowP_of _ (hb.mono hs))).setCell (p:=⟨B0,0,none⟩) (.inl rfl) u
 refine ⟨h.keeps.trans ((KeepsFrom.of_grownBy (grown_of_below' hb none) (fun j e => by cases e)).trans ((KeepsOthers.setCell _ _ _).from _)),hB,?_,?_,?_,?_,hI.below.trans hB⟩
 ·rw [World.cell?_setCell_same _ _ _ c0,hu,show d.length - (j+1)=q from by omega,atL_at hx]
 ·rw [World.frozen?_setCell]; exact (World.frozen?_of_block (a:=⟨B0,0,none⟩) (hbl B0 (by omega))).trans h.fz
 ·exact (h.row.kept (hbl Rb (by omega))).kept (Below.heap_setCell z ⟨B0,0,none⟩ u Rb (show Rb ≠ B0 by omega))
 ·rw [World.cell?_setCell_other _ _ _ _ (fun e => by injection e with e _; omega)]
  exact (World.cell?_of_block (a:=⟨Rb+1,0,none⟩) (hbl (Rb+1) (by omega))).trans h.box
structure AtX (B0 Rb p:Nat) (d:List DimT) (k r:Int) (x:DimT) (W5 W:World) (j q:Nat) (w:World):Prop where
 idx:w.cell? ⟨B0,0,none⟩=some (.int .i64 r)
 fz:w.frozen? ⟨B0,0,none⟩=false
 row:∃ y,RowZ w Rb ((rowA d k j).set q y)
 box:w.cell? ⟨Rb+1,0,none⟩=some (.slice (some ⟨Rb,0,none⟩) d.length d.length)
 x0:w.cell? ⟨p,0,none⟩=some (strV x.name)
 x1:w.cell? ⟨p,1,none⟩=some (.int .i64 x.lo)
 x2:w.cell? ⟨p,2,none⟩=some (.int .i64 x.hi)
 below:BelowP (fun b => b=B0 ∨ b=Rb) W5.heap.size W w
 keeps:KeepsFrom W5.heap.size W w
theorem RowZ.lt {w:World} {g:Nat} {l:List Int} (h:RowZ w g l):g<w.heap.size:=h.tag.lt
theorem AtX.later {B0 Rb p:Nat} {d:List DimT} {k r:Int} {x:DimT} {W5 W:World} {j q:Nat} {w w':World} (h:AtX B0 Rb p d k r x W5 W j q w) (hs:W5.heap.size≤W.heap.size) (hb:Below w.heap.size w w'):AtX B0 Rb p d k r x W5 W j q w':=by
 have hsz:=h.below.size
 obtain ⟨y,hy⟩:=h.row
 exact ⟨cell_later h.idx hb,(hb.frozen (p:=⟨B0,0,none⟩) (World.block_lt_of_cell? _ _ h.idx)).trans h.fz,⟨y,hy.later hb hy.lt⟩,cell_later h.box hb,cell_later h.x0 hb,cell_later h.x1 hb,cell_later h.x2 hb,
  h.below.trans (belowP_of _ (hb.mono (by omega))),h.keeps.trans (KeepsFrom.of_grownBy (grown_of_below' hb none) (fun j e => by cases e))⟩
theorem AtX.store {B0 Rb p:Nat} {d:List DimT} {k r:Int} {x:DimT} {W5 W:World} {j q:Nat} {w:World} (h:AtX B0 Rb p d k r x W5 W j q w) (h0:B0<Rb) (hp:Rb<p) (hq:q<d.length) (v:Int) {u:Value} (hu:u=.int .i64 v) :
  AtX B0 Rb p d k r x W5 W j q (w.setCell ⟨Rb,q,none⟩ u)∧RowZ (w.setCell ⟨Rb,q,none⟩ u) Rb ((rowA d k j).set q v):=by
 obtain ⟨y,hy⟩:=h.row
 have hr:=hy.set q v (by rw [List.length_set,rowA_length]; exact hq) hu
 rw [List.set_set] at hr
 have hc:∀ g o v,g ≠ Rb→w.cell? ⟨g,o,none⟩=some v→(w.setCell ⟨Rb,q,none⟩ u).cell? ⟨g,o,none⟩=some v:=fun g o v hg hv => by
  rw [World.cell?_setCell_other _ _ _ _ (fun e => by injection e with e _; exact hg e.symm)]; exact hv
 exact ⟨⟨hc _ _ _ (by omega) h.idx,by rw [World.frozen?_setCell]; exact h.fz,⟨v,hr⟩,hc _ _ _ (by omega) h.box,hc _ _ _ (by omega) h.x0,hc _ _ _ (by omega) h.x1,hc _ _ _ (by omega) h.x2,
  h.below.setCell (p:=⟨Rb,q,none⟩) (.inr rfl) u,h.keeps.trans ((KeepsOthers.setCell _ _ _).from _)⟩,hr⟩
end Go.Proofs.YtdbnebhehiiakaaGreatDoor
