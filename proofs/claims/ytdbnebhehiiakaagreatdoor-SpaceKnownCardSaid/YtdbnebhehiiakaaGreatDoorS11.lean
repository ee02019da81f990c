/- Lemmas and contracts, each under its own condition: At a step of a region: what an operation does. space.widened, Core, Wide: contracts. space.Core, Wide: from what space.widened returns. -/
import Derived.Deep.AppendLies
import Derived.Deep.RegionLaw
import Derived.Deep.RegionHeld3
import Derived.StillTailTactics
import Derived.Test.YtdbnebhehiiakaaGreatDoorN1
import Derived.Test.YtdbnebhehiiakaaGreatDoorS8
import Derived.Test.YtdbnebhehiiakaaGreatDoorS9
namespace Go.Proofs.YtdbnebhehiiakaaGreatDoor
open Go.RowKit
theorem step_wp {P:Program} {ops:Array Oper} {o:Oper} {a:Act} {w:World} {K:Act→World→Prop} {Q:Exit→Act→World→Prop} {E:Prop} (hgd:o.guard=none) (h:o.wp P a w K Q):if Region.wanted o (yielded ops a.tmps)=true then Oper.wp P o a w K Q else E:=by
 have hw:Region.wanted o (yielded ops a.tmps)=true:=by simp [Region.wanted,hgd]
 rw [if_pos hw]
 exact h
def widR:List Int→List Int→List DimT→List Int→List Int→List Int→Option (List Int × List Int)
 | lo,hi,d :: ds,s :: ss,o :: os,n :: ns => if n<0 ∨ (d.last - d.lo) / s<n then none else widR (lo ++ [max (d.lo+n * s - o) d.lo]) (hi ++ [min (d.lo+n * s+s - 1+o) d.last]) ds ss os ns
 | lo,hi,_,_,_,_ => some (lo,hi)
def overQ (l:LayT) (b:Bool):List Int:=if b=true then l.over else List.replicate l.over.length 0
def bxOf:Option (List Int × List Int)→List Int × List Int
 | none => ([],[])
 | some x => x
def erOf:Option (List Int × List Int)→Int
 | none => 3
 | some _ => 0
def widE (d:List DimT) (l:LayT) (c:List Int) (b:Bool):Int :=
 if layoutE d l ≠ 0 then layoutE d l else if c.length ≠ d.length then 13 else erOf (widR [] [] d l.sides (overQ l b) c)
def widQ (d:List DimT) (l:LayT) (c:List Int) (b:Bool):List Int × List Int :=
 if layoutE d l ≠ 0 then ([],[]) else if c.length ≠ d.length then ([],[]) else bxOf (widR [] [] d l.sides (overQ l b) c)
theorem widR_drop {lo hi:List Int} {d:List DimT} {s o c:List Int} {i:Nat} {x:DimT} {y z n:Int} (hx:d[i]? = some x) (hy:s[i]? = some y) (hz:o[i]? = some z) (hn:c[i]? = some n) :
  widR lo hi (d.drop i) (s.drop i) (o.drop i) (c.drop i)=if n<0 ∨ (x.last - x.lo) / y<n then none else widR (lo ++ [max (x.lo+n * y - z) x.lo]) (hi ++ [min (x.lo+n * y+y - 1+z) x.last]) (d.drop (i+1)) (s.drop (i+1)) (o.drop (i+1)) (c.drop (i+1)):=by
 rw [drop_cons hx,drop_cons hy,drop_cons hz,drop_cons hn,widR]
def RetBx (b:List Int × List Int) (r:Int) (w:World) (e:Ending) (w':World):Prop:=∃ v1 v2,e=.returned (.tuple #[.agg #[v1,v2],.int .i64 r])∧IntsO w' v1 b.1∧IntsO w' v2 b.2∧Below w.heap.size w w'
structure ResB (w:World) (g:Nat) (v1 v2:Value):Prop where
 c0:w.cell? ⟨g,0,none⟩=some v1
 c1:w.cell? ⟨g,1,none⟩=some v2
 f0:w.frozen? ⟨g,0,none⟩=false
 f1:w.frozen? ⟨g,1,none⟩=false
theorem ResB.later {w w':World} {B g:Nat} {v1 v2:Value} (h:ResB w g v1 v2) (hb:Below B w w') (hg:g<B):ResB w' g v1 v2 :=
 ⟨(hb.cell (p:=⟨g,0,none⟩) hg).trans h.c0,(hb.cell (p:=⟨g,1,none⟩) hg).trans h.c1,(hb.frozen (p:=⟨g,0,none⟩) hg).trans h.f0,(hb.frozen (p:=⟨g,1,none⟩) hg).trans h.f1⟩
theorem ResB.made (w:World) (T:TypeId):ResB (w.alloc (.cells #[.slice none 0 0,.slice none 0 0] T)) w.heap.size (.slice none 0 0) (.slice none 0 0) :=
 ⟨by rw [World.cell?_alloc_at _ _ _ _ rfl]; rfl,by rw [World.cell?_alloc_at _ _ _ _ rfl]; rfl,World.frozen?_alloc_at _ _ _ _ rfl,World.frozen?_alloc_at _ _ _ _ rfl⟩
set_option maxHeartbeats 2000000 in
theorem widened_bad (d:List DimT) (l:LayT) (c:List Int) (ov:Bool) (vd vs vo vc:Value) (w:World) (hd:Dims w vd d) (hl:LayR w vs vo l) (hc:Ints w vc c) (hs:StrD d) (h:layoutE d l ≠ 0) :
  Calls Tryz.prog 51 #[vd,layV vs vo l,vc,.bool ov] w (RetBx ([],[]) (layoutE d l) w):=by
 have C:=Lib.hid (fun w1 (hb:Below w.heap.size w w1) => layout_any d l vd vs vo w1 (hd.later DimR.lasts hb) (hl.later hb) hs)
 obtain ⟨p1,cap1,rfl,-⟩:=hd.shape
 obtain ⟨p2,cap2,rfl,-⟩:=hl.sides.shape
 obtain ⟨p3,cap3,rfl,-⟩:=hl.over.shape
 obtain ⟨p4,cap4,rfl,-⟩:=hc.shape
 have hne:(layoutE d l != 0)=true:=by rw [bne_iff_ne]; exact h
 obtain ⟨ss,oo,o,t,f,c'⟩:=l
 generalize layoutE d _=r at *
 clear hd hl hs h hc
 go_enter Tryz.func51,Tryz.ntmps51
 go_wp2_with fail
 refine (C.out _ ((below_alloc _ _).trans ((below_alloc _ _).mono (by simp)))).mono ?_
 rintro e w1 ⟨rfl,hb⟩
 have HB:=Lib.hid (((below_alloc _ _).trans ((below_alloc _ _).mono (by simp))).trans (hb.mono (by simp; omega)))
 have hrs:=(ResB.made (w.alloc (.cells #[.slice p2 ss.length cap2,.slice p3 oo.length cap3,.int .i64 o,.int .i64 t,.int .i64 f,.int .i64 c'] 38)) 44).later hb (by simp)
 simp only [World.size_alloc] at hrs
 obtain ⟨r0,r1,r2,r3⟩:=hrs
 clear hb C
 go_wp2
 refine bodyPost_ret (by simp [results,Tryz.results51,go_sem,r0,r1]; try rfl) rfl ?_
 exact ⟨_,_,rfl,IntsO.nil _,IntsO.nil _,(HB.out.setCell (by simp) _).setCell (by simp) _⟩
set_option maxHeartbeats 2000000 in
theorem widened_shape (d:List DimT) (l:LayT) (c:List Int) (ov:Bool) (vd vs vo vc:Value) (w:World) (hd:Dims w vd d) (hl:LayR w vs vo l) (hc:Ints w vc c) (hs:StrD d) (h:layoutE d l=0) (h2:c.length ≠ d.length) :
  Calls Tryz.prog 51 #[vd,layV vs vo l,vc,.bool ov] w (RetBx ([],[]) 13 w):=by
 have C:=Lib.hid (fun w1 (hb:Below w.heap.size w w1) => layout_any d l vd vs vo w1 (hd.later DimR.lasts hb) (hl.later hb) hs)
 rw [h] at C
 obtain ⟨p1,cap1,rfl,-⟩:=hd.shape
 obtain ⟨p2,cap2,rfl,-⟩:=hl.sides.shape
 obtain ⟨p3,cap3,rfl,-⟩:=hl.over.shape
 obtain ⟨p4,cap4,rfl,-⟩:=hc.shape
 have h3:¬ ((c.length:Int)=d.length):=by omega
 obtain ⟨ss,oo,o,t,f,c'⟩:=l
 clear hd hl hs h hc h2
 go_enter Tryz.func51,Tryz.ntmps51
 go_wp2_with fail
 refine (C.out _ ((below_alloc _ _).trans ((below_alloc _ _).mono (by simp)))).mono ?_
 rintro e w1 ⟨rfl,hb⟩
 have HB:=Lib.hid (((below_alloc _ _).trans ((below_alloc _ _).mono (by simp))).trans (hb.mono (by simp; omega)))
 have hrs:=(ResB.made (w.alloc (.cells #[.slice p2 ss.length cap2,.slice p3 oo.length cap3,.int .i64 o,.int .i64 t,.int .i64 f,.int .i64 c'] 38)) 44).later hb (by simp)
 simp only [World.size_alloc] at hrs
 obtain ⟨r0,r1,r2,r3⟩:=hrs
 clear hb C
 go_wp2
 refine bodyPost_ret (by simp [results,Tryz.results51,go_sem,r0,r1]; try rfl) rfl ?_
 exact ⟨_,_,rfl,IntsO.nil _,IntsO.nil _,(HB.out.setCell (by simp) _).setCell (by simp) _⟩
structure BoxO (n₀ g:Nat) (w:World) (v1 v2:Value) (lo hi:List Int):Prop where
 res:ResB w g v1 v2
 own1:w.ownsRow n₀ 3 1 v1 lo.length (lo.map (Value.int .i64))
 own2:w.ownsRow n₀ 3 1 v2 hi.length (hi.map (Value.int .i64))
 apart:∀ b,v1.ownBlock=some b→v2.ownBlock ≠ some b
 tag:TagB w g 44
theorem BoxO.later {n₀ g:Nat} {w w':World} {v1 v2:Value} {lo hi:List Int} (h:BoxO n₀ g w v1 v2 lo hi) (hb:Below w.heap.size w w'):BoxO n₀ g w' v1 v2 lo hi :=
 ⟨h.res.later hb h.tag.lt,h.own1.kept (row:=none) (grown_of_below hb none) (by cases v1.ownBlock <;> simp),h.own2.kept (row:=none) (grown_of_below hb none) (by cases v2.ownBlock <;> simp),h.apart,h.tag.kept (hb.block g h.tag.lt)⟩
theorem ownsRow_ne {w:World} {n₀ g:Nat} {v:Value} {n:Nat} {xs:List Value} {T T':TypeId} (h:w.ownsRow n₀ T 1 v n xs) (ht:TagB w g T') (hne:T ≠ T'):∀ b,v.ownBlock=some b→b ≠ g :=
 fun b hb => (ownsRow_tag h b hb).ne ht hne
theorem BoxO.put1 {n₀ g g1 cap H:Nat} {W w1:World} {v1 v2:Value} {lo hi:List Int} {x:Int} (h:BoxO n₀ g W v1 v2 lo hi) (hT : 3 ≠ 44) (hH:H=W.heap.size)
  (hn:w1.ownsRow n₀ 3 1 (.slice (some ⟨g1,0,none⟩) (lo.length+1) cap) (lo.length+1) (lo.map (Value.int .i64) ++ [.int .i64 x])) (hg:W.grownBy w1 v1.ownBlock) (hat:v1.ownBlock=some g1 ∨ g1=H) :
  ResB w1 g v1 v2∧BoxO n₀ g (w1.setCell ⟨g,0,none⟩ (.slice (some ⟨g1,0,none⟩) (lo.length+1) cap)) (.slice (some ⟨g1,0,none⟩) (lo.length+1) cap) v2 (lo ++ [x]) hi:=by
 have hne:∀ b,v1.ownBlock=some b→b ≠ g:=ownsRow_ne h.own1 h.tag hT
 have hbl:w1.heap[g]? = W.heap[g]?:=hg.block g h.tag.lt (fun e => hne g e.symm rfl)
 have hres:ResB w1 g v1 v2:=⟨(World.cell?_of_block (a:=⟨g,0,none⟩) hbl).trans h.res.c0,(World.cell?_of_block (a:=⟨g,1,none⟩) hbl).trans h.res.c1,(World.frozen?_of_block (a:=⟨g,0,none⟩) hbl).trans h.res.f0,(World.frozen?_of_block (a:=⟨g,1,none⟩) hbl).trans h.res.f1⟩
 have ht1:TagB w1 g 44:=h.tag.kept hbl
 have hg1:g1 ≠ g:=fun e => by
  rcases hat with e2 | e2
  ·exact hne g1 e2 e
  ·have:=h.tag.lt
   omega
 have hown2:w1.ownsRow n₀ 3 1 v2 hi.length (hi.map (Value.int .i64)):=h.own2.kept hg (by
  cases hv:v2.ownBlock with
  | none => exact .inl rfl
  | some b => exact .inr fun e => h.apart b e.symm hv)
 refine ⟨hres,⟨⟨World.cell?_setCell_same _ _ _ hres.c0,?_,by rw [World.frozen?_setCell]; exact hres.f0,by rw [World.frozen?_setCell]; exact hres.f1⟩,?_,?_,?_,ht1.setCell _ _⟩⟩
 ·rw [World.cell?_setCell_other _ _ _ _ (fun e => by injection e with _ e; cases e)]
  exact hres.c1
 ·rw [List.length_append,List.map_append]
  exact hn.kept (grown_setG w1 g 0 _) (.inr fun e => hg1 (by simpa [Value.ownBlock] using e))
 ·exact hown2.kept (grown_setG w1 g 0 _) (by
   cases hv:v2.ownBlock with
   | none => exact .inl rfl
   | some b => exact .inr fun e => (ownsRow_ne h.own2 h.tag hT b hv) (by injection e))
 ·intro b hb hb2
  obtain rfl:g1=b:=by simpa [Value.ownBlock] using hb
  rcases hat with e2 | e2
  ·exact h.apart g1 e2 hb2
  ·have:=(h.own2.lt g1 hb2).2
   omega
theorem BoxO.put2 {n₀ g g1 cap H:Nat} {W w1:World} {v1 v2:Value} {lo hi:List Int} {x:Int} (h:BoxO n₀ g W v1 v2 lo hi) (hT : 3 ≠ 44) (hH:H=W.heap.size)
  (hn:w1.ownsRow n₀ 3 1 (.slice (some ⟨g1,0,none⟩) (hi.length+1) cap) (hi.length+1) (hi.map (Value.int .i64) ++ [.int .i64 x])) (hg:W.grownBy w1 v2.ownBlock) (hat:v2.ownBlock=some g1 ∨ g1=H) :
  ResB w1 g v1 v2∧BoxO n₀ g (w1.setCell ⟨g,1,none⟩ (.slice (some ⟨g1,0,none⟩) (hi.length+1) cap)) v1 (.slice (some ⟨g1,0,none⟩) (hi.length+1) cap) lo (hi ++ [x]):=by
 have hne:∀ b,v2.ownBlock=some b→b ≠ g:=ownsRow_ne h.own2 h.tag hT
 have hbl:w1.heap[g]? = W.heap[g]?:=hg.block g h.tag.lt (fun e => hne g e.symm rfl)
 have hres:ResB w1 g v1 v2:=⟨(World.cell?_of_block (a:=⟨g,0,none⟩) hbl).trans h.res.c0,(World.cell?_of_block (a:=⟨g,1,none⟩) hbl).trans h.res.c1,(World.frozen?_of_block (a:=⟨g,0,none⟩) hbl).trans h.res.f0,(World.frozen?_of_block (a:=⟨g,1,none⟩) hbl).trans h.res.f1⟩
 have ht1:TagB w1 g 44:=h.tag.kept hbl
 have hg1:g1 ≠ g:=fun e => by
  rcases hat with e2 | e2
  ·exact hne g1 e2 e
  ·have:=h.tag.lt
   omega
 have hown1:w1.ownsRow n₀ 3 1 v1 lo.length (lo.map (Value.int .i64)):=h.own1.kept hg (by
  cases hv:v1.ownBlock with
  | none => exact .inl rfl
  | some b => exact .inr fun e => h.apart b hv e.symm)
 refine ⟨hres,⟨⟨?_,World.cell?_setCell_same _ _ _ hres.c1,by rw [World.frozen?_setCell]; exact hres.f0,by rw [World.frozen?_setCell]; exact hres.f1⟩,?_,?_,?_,ht1.setCell _ _⟩⟩
 ·rw [World.cell?_setCell_other _ _ _ _ (fun e => by injection e with _ e; cases e)]
  exact hres.c0
 ·exact hown1.kept (grown_setG w1 g 1 _) (by
   cases hv:v1.ownBlock with
   | none => exact .inl rfl
   | some b => exact .inr fun e => (ownsRow_ne h.own1 h.tag hT b hv) (by injection e))
 ·rw [List.length_append,List.map_append]
  exact hn.kept (grown_setG w1 g 1 _) (.inr fun e => hg1 (by simpa [Value.ownBlock] using e))
 ·intro b hb hb2
  obtain rfl:g1=b:=by simpa [Value.ownBlock] using hb2
  rcases hat with e2 | e2
  ·exact h.apart g1 hb e2
  ·have:=(h.own1.lt g1 hb).2
   omega
theorem IntsO.setG {w:World} {v:Value} {l:List Int} {g k:Nat} {u:Value} {T:TypeId} (h:IntsO w v l) (ht:TagB w g T) (hT : 3 ≠ T):IntsO (w.setCell ⟨g,k,none⟩ u) v l :=
 h.kept fun b hb => Below.heap_setCell w ⟨g,k,none⟩ u b ((h.tag b hb).ne ht hT)
set_option maxHeartbeats 2000000 in
theorem core_of (q:List Int × List Int) (r:Int) (l:LayT) (pd pc:Option Addr) (nd cd nc cc:Nat) (vs vo:Value) (w:World) (hvs:∃ p n c,vs=.slice p n c) (hvo:∃ p n c,vo=.slice p n c)
  (C:∀ w1,Below w.heap.size w w1→Calls Tryz.prog 51 #[.slice pd nd cd,layV vs vo l,.slice pc nc cc,.bool false] w1 (RetBx q r w1)) :
  Calls Tryz.prog 14 #[.slice pd nd cd,layV vs vo l,.slice pc nc cc] w (RetBx q r w):=by
 have C:=Lib.hid C
 obtain ⟨p2,n2,cap2,rfl⟩:=hvs
 obtain ⟨p3,n3,cap3,rfl⟩:=hvo
 obtain ⟨ss,oo,o,t,f,c'⟩:=l
 obtain ⟨qa,qb⟩:=q
 go_enter Tryz.func14,Tryz.ntmps14
 go_wp2_with fail
 refine (C.out _ ((below_alloc _ _).trans ((below_alloc _ _).mono (by simp)))).mono ?_
 rintro e w1 ⟨v1,v2,rfl,hi1,hi2,hb⟩
 have HB:=Lib.hid (((below_alloc _ _).trans ((below_alloc _ _).mono (by simp))).trans (hb.mono (by simp; omega)))
 have hrs:=(ResB.made (w.alloc (.cells #[.slice p2 n2 cap2,.slice p3 n3 cap3,.int .i64 o,.int .i64 t,.int .i64 f,.int .i64 c'] 38)) 44).later hb (by simp)
 have htg:TagB w1 (w.heap.size+1) 44:=by
  have h0:TagB ((w.alloc (.cells #[.slice p2 n2 cap2,.slice p3 n3 cap3,.int .i64 o,.int .i64 t,.int .i64 f,.int .i64 c'] 38)).alloc (.cells #[.slice none 0 0,.slice none 0 0] 44)) (w.heap.size+1) 44:=⟨_,(0,0),by have:=World.alloc_heap_new (w.alloc (.cells #[.slice p2 n2 cap2,.slice p3 n3 cap3,.int .i64 o,.int .i64 t,.int .i64 f,.int .i64 c'] 38)) (.cells #[.slice none 0 0,.slice none 0 0] 44); rwa [World.size_alloc] at this⟩
  exact h0.kept (hb.block _ (by simp))
 simp only [World.size_alloc] at hrs
 obtain ⟨r0,r1,r2,r3⟩:=hrs
 have HI1:=Lib.hid hi1
 have HI2:=Lib.hid hi2
 have HTG:=Lib.hid htg
 obtain ⟨a1,c1,rfl,-⟩:=hi1.ints.shape
 obtain ⟨a2,c2,rfl,-⟩:=hi2.ints.shape
 clear hb C hi1 hi2 htg
 go_wp2
 have r4:=World.cell?_setCell_same w1 ⟨w.heap.size+1,0,none⟩ (.slice a1 qa.length c1) r0
 have r5:(w1.setCell ⟨w.heap.size+1,0,none⟩ (.slice a1 qa.length c1)).cell? ⟨w.heap.size+1,1,none⟩=some (.slice none 0 0):=by
  rw [World.cell?_setCell_other _ _ _ _ (fun e => by injection e with _ e; cases e)]; exact r1
 refine bodyPost_ret (by simp [results,Tryz.results14,go_sem,r4,r5]; try rfl) rfl ?_
 exact ⟨_,_,rfl,(HI1.out.setG HTG.out (by decide)).setG (HTG.out.setCell _ _) (by decide),(HI2.out.setG HTG.out (by decide)).setG (HTG.out.setCell _ _) (by decide),(HB.out.setCell (by simp) _).setCell (by simp) _⟩
set_option maxHeartbeats 2000000 in
theorem wide_of (q:List Int × List Int) (r:Int) (l:LayT) (pd pc:Option Addr) (nd cd nc cc:Nat) (vs vo:Value) (w:World) (hvs:∃ p n c,vs=.slice p n c) (hvo:∃ p n c,vo=.slice p n c)
  (C:∀ w1,Below w.heap.size w w1→Calls Tryz.prog 51 #[.slice pd nd cd,layV vs vo l,.slice pc nc cc,.bool true] w1 (RetBx q r w1)) :
  Calls Tryz.prog 25 #[.slice pd nd cd,layV vs vo l,.slice pc nc cc] w (RetBx q r w):=by
 have C:=Lib.hid C
 obtain ⟨p2,n2,cap2,rfl⟩:=hvs
 obtain ⟨p3,n3,cap3,rfl⟩:=hvo
 obtain ⟨ss,oo,o,t,f,c'⟩:=l
 obtain ⟨qa,qb⟩:=q
 go_enter Tryz.func25,Tryz.ntmps25
 go_wp2_with fail
 refine (C.out _ ((below_alloc _ _).trans ((below_alloc _ _).mono (by simp)))).mono ?_
 rintro e w1 ⟨v1,v2,rfl,hi1,hi2,hb⟩
 have HB:=Lib.hid (((below_alloc _ _).trans ((below_alloc _ _).mono (by simp))).trans (hb.mono (by simp; omega)))
 have hrs:=(ResB.made (w.alloc (.cells #[.slice p2 n2 cap2,.slice p3 n3 cap3,.int .i64 o,.int .i64 t,.int .i64 f,.int .i64 c'] 38)) 44).later hb (by simp)
 have htg:TagB w1 (w.heap.size+1) 44:=by
  have h0:TagB ((w.alloc (.cells #[.slice p2 n2 cap2,.slice p3 n3 cap3,.int .i64 o,.int .i64 t,.int .i64 f,.int .i64 c'] 38)).alloc (.cells #[.slice none 0 0,.slice none 0 0] 44)) (w.heap.size+1) 44:=⟨_,(0,0),by have:=World.alloc_heap_new (w.alloc (.cells #[.slice p2 n2 cap2,.slice p3 n3 cap3,.int .i64 o,.int .i64 t,.int .i64 f,.int .i64 c'] 38)) (.cells #[.slice none 0 0,.slice none 0 0] 44); rwa [World.size_alloc] at this⟩
  exact h0.kept (hb.block _ (by simp))
 simp only [World.size_alloc] at hrs
 obtain ⟨r0,r1,r2,r3⟩:=hrs
 have HI1:=Lib.hid hi1
 have HI2:=Lib.hid hi2
 have HTG:=Lib.hid htg
 obtain ⟨a1,c1,rfl,-⟩:=hi1.ints.shape
 obtain ⟨a2,c2,rfl,-⟩:=hi2.ints.shape
 clear hb C hi1 hi2 htg
 go_wp2
 have r4:=World.cell?_setCell_same w1 ⟨w.heap.size+1,0,none⟩ (.slice a1 qa.length c1) r0
 have r5:(w1.setCell ⟨w.heap.size+1,0,none⟩ (.slice a1 qa.length c1)).cell? ⟨w.heap.size+1,1,none⟩=some (.slice none 0 0):=by
  rw [World.cell?_setCell_other _ _ _ _ (fun e => by injection e with _ e; cases e)]; exact r1
 refine bodyPost_ret (by simp [results,Tryz.results25,go_sem,r4,r5]; try rfl) rfl ?_
 exact ⟨_,_,rfl,(HI1.out.setG HTG.out (by decide)).setG (HTG.out.setCell _ _) (by decide),(HI2.out.setG HTG.out (by decide)).setG (HTG.out.setCell _ _) (by decide),(HB.out.setCell (by simp) _).setCell (by simp) _⟩
end Go.Proofs.YtdbnebhehiiakaaGreatDoor
