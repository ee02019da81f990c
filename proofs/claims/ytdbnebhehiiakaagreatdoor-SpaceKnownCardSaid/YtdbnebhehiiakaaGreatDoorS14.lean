/- Lemmas and contracts, each under its own condition: space.widened, Core, Wide: what they return. space.Homes: what it returns. The laws' examples: tesseractlaw02.sides. -/
import Derived.Test.YtdbnebhehiiakaaGreatDoorHomB
import Derived.Test.YtdbnebhehiiakaaGreatDoorS11
import Derived.Test.YtdbnebhehiiakaaGreatDoorS51
namespace Go.Proofs.YtdbnebhehiiakaaGreatDoor
open Go.RowKit
theorem widened_any (d:List DimT) (l:LayT) (c:List Int) (b:Bool) (vd vs vo vc:Value) (w:World) (hd:Dims w vd d) (hl:LayR w vs vo l) (hc:Ints w vc c) (hs:StrD d)
  (hcb:∀ x ∈ c,-9223372036854775808≤x∧x≤9223372036854775807) :
  Calls Tryz.prog 51 #[vd,layV vs vo l,vc,.bool b] w (RetBx (widQ d l c b) (widE d l c b) w):=by
 by_cases h:layoutE d l=0
 ·have q1:widQ d l c b=if c.length ≠ d.length then ([],[]) else bxOf (widR [] [] d l.sides (overQ l b) c):=if_neg (fun h' => h' h)
  have q2:widE d l c b=if c.length ≠ d.length then 13 else erOf (widR [] [] d l.sides (overQ l b) c):=if_neg (fun h' => h' h)
  rw [q1,q2]
  by_cases h2:c.length=d.length
  ·rw [if_neg (fun h' => h' h2),if_neg (fun h' => h' h2)]
   cases b with
   | true => exact widened_true d l c vd vs vo vc w hd hl hc hs h h2 hcb
   | false => exact widened_false d l c vd vs vo vc w hd hl hc hs h h2 hcb
  ·rw [if_pos h2,if_pos h2]
   exact widened_shape d l c b vd vs vo vc w hd hl hc hs h h2
 ·have q1:widQ d l c b=([],[]):=if_pos h
  have q2:widE d l c b=layoutE d l:=if_pos h
  rw [q1,q2]
  exact widened_bad d l c b vd vs vo vc w hd hl hc hs h
theorem core_any (d:List DimT) (l:LayT) (c:List Int) (vd vs vo vc:Value) (w:World) (hd:Dims w vd d) (hl:LayR w vs vo l) (hc:Ints w vc c) (hs:StrD d)
  (hcb:∀ x ∈ c,-9223372036854775808≤x∧x≤9223372036854775807) :
  Calls Tryz.prog 14 #[vd,layV vs vo l,vc] w (RetBx (widQ d l c false) (widE d l c false) w):=by
 have C:=fun w1 (hb:Below w.heap.size w w1) => widened_any d l c false vd vs vo vc w1 (hd.later DimR.lasts hb) (hl.later hb) (hc.later IntR.lasts hb) hs hcb
 obtain ⟨p1,cap1,rfl,-⟩:=hd.shape
 obtain ⟨p2,cap2,e2,-⟩:=hl.sides.shape
 obtain ⟨p3,cap3,e3,-⟩:=hl.over.shape
 obtain ⟨p4,cap4,rfl,-⟩:=hc.shape
 exact core_of _ _ l _ _ _ _ _ _ vs vo w ⟨_,_,_,e2⟩ ⟨_,_,_,e3⟩ C
theorem wide_any (d:List DimT) (l:LayT) (c:List Int) (vd vs vo vc:Value) (w:World) (hd:Dims w vd d) (hl:LayR w vs vo l) (hc:Ints w vc c) (hs:StrD d)
  (hcb:∀ x ∈ c,-9223372036854775808≤x∧x≤9223372036854775807) :
  Calls Tryz.prog 25 #[vd,layV vs vo l,vc] w (RetBx (widQ d l c true) (widE d l c true) w):=by
 have C:=fun w1 (hb:Below w.heap.size w w1) => widened_any d l c true vd vs vo vc w1 (hd.later DimR.lasts hb) (hl.later hb) (hc.later IntR.lasts hb) hs hcb
 obtain ⟨p1,cap1,rfl,-⟩:=hd.shape
 obtain ⟨p2,cap2,e2,-⟩:=hl.sides.shape
 obtain ⟨p3,cap3,e3,-⟩:=hl.over.shape
 obtain ⟨p4,cap4,rfl,-⟩:=hc.shape
 exact wide_of _ _ l _ _ _ _ _ _ vs vo w ⟨_,_,_,e2⟩ ⟨_,_,_,e3⟩ C
set_option maxHeartbeats 2000000 in
theorem homes_bad (d:List DimT) (l:LayT) (c:List Int) (vd vs vo vc:Value) (w:World) (hd:Dims w vd d) (hl:LayR w vs vo l) (hc:Ints w vc c) (hs:StrD d) (h:chunkE d l c ≠ 0) :
  Calls Tryz.prog 24 #[vd,layV vs vo l,vc] w (RetPts [] (chunkE d l c) w):=by
 have C:=Lib.hid (fun w1 (hb:Below w.heap.size w w1) => chunk_any d l c vd vs vo vc w1 (hd.later DimR.lasts hb) (hl.later hb) (hc.later IntR.lasts hb) hs)
 obtain ⟨p1,cap1,rfl,-⟩:=hd.shape
 obtain ⟨p2,cap2,rfl,-⟩:=hl.sides.shape
 obtain ⟨p3,cap3,rfl,-⟩:=hl.over.shape
 obtain ⟨p4,cap4,rfl,-⟩:=hc.shape
 have hne:(chunkE d l c != 0)=true:=by rw [bne_iff_ne]; exact h
 generalize chunkQ d l c=q at *
 generalize chunkE d l c=r at *
 obtain ⟨ss,oo,o,t,f,c'⟩:=l
 clear hd hl hs h hc
 go_enter Tryz.func24,Tryz.ntmps24
 go_wp2_with fail
 refine (C.out _ (below_alloc _ _)).mono ?_
 rintro e w1 ⟨v,rfl,hq,hb⟩
 have HB:=Lib.hid ((below_alloc w (.cells #[.slice p2 ss.length cap2,.slice p3 oo.length cap3,.int .i64 o,.int .i64 t,.int .i64 f,.int .i64 c'] 38)).trans (hb.mono (by simp)))
 obtain ⟨a9,c9,rfl,-⟩:=hq.ints.shape
 clear hb C hq
 go_wp2
 go_ret2
 exact ⟨_,rfl,⟨[],World.ownsRow_nil _ _ _ _,fun i x u h => by simp at h⟩,HB.out⟩
theorem homes_any (d:List DimT) (l:LayT) (c:List Int) (vd vs vo vc:Value) (w:World) (hd:Dims w vd d) (hl:LayR w vs vo l) (hc:Ints w vc c) (hs:StrD d) :
  Calls Tryz.prog 24 #[vd,layV vs vo l,vc] w (RetPts (homesQ d l c) (chunkE d l c) w):=by
 by_cases h:chunkE d l c=0
 ·have h1:layoutE d l=0:=by
   apply Classical.byContradiction
   intro h9
   have:chunkE d l c=layoutE d l:=if_pos h9
   omega
  have h2:c.length=d.length:=by
   apply Classical.byContradiction
   intro h9
   have:chunkE d l c=13:=by unfold chunkE; rw [if_neg (fun h' => h' h1),if_pos h9]
   omega
  have h3:ofL d c=true:=by
   cases h9:ofL d c with
   | true => rfl
   | false =>
    have:chunkE d l c=3:=by unfold chunkE; rw [if_neg (fun h' => h' h1),if_neg (fun h' => h' h2),if_pos h9]
    omega
  have hq:homesQ d l c=ptsL (homesL [] [] d l.sides l.over c).1 (homesL [] [] d l.sides l.over c).2:=if_pos h
  rw [hq,h]
  exact homes_core d l c vd vs vo vc w hd hl hc hs h1 h2 h3
 ·have hq:homesQ d l c=[]:=if_neg h
  rw [hq]
  exact homes_bad d l c vd vs vo vc w hd hl hc hs h
def exD:List DimT:=[⟨[120],-2,5⟩,⟨[121],0,1073741825⟩]
def exL:LayT:=⟨[4,3],[1,0],1,0,1,1⟩
theorem ls_new2 (w:World) (x y:Int):Ints (w.alloc (.cells #[.int .i64 x,.int .i64 y] 3)) (.slice (some ⟨w.heap.size,0,none⟩) 2 2) [x,y]:=by
 refine ⟨_,_,rfl,Nat.le_refl _,by decide,fun _ => ⟨_,_,rfl,fun i z h => ?_⟩⟩
 match i,h with
 | 0,h => cases h; show World.cell? _ _=_; rw [World.cell?_alloc_at _ _ _ _ rfl]; rfl
 | 1,h => cases h; show World.cell? _ _=_; rw [World.cell?_alloc_at _ _ _ _ rfl]; rfl
 | n+2,h => simp at h
set_option maxHeartbeats 2000000 in
theorem sides_any (w:World):Calls Tryz.prog 12 #[] w (fun e w' => ∃ vd vs vo,e=.returned (.tuple #[vd,layV vs vo exL])∧Dims w' vd exD∧LayR w' vs vo exL∧Below w.heap.size w w'):=by
 go_enter Tryz.func12,Tryz.ntmps12
 go_wp2
 refine bodyPost_ret (by simp [results,Tryz.results12,go_sem]; try rfl) rfl ?_
 refine ⟨_,_,_,rfl,?_,⟨?_,?_⟩,?_⟩
 ·refine ⟨_,_,rfl,Nat.le_refl _,by decide,fun _ => ⟨_,_,rfl,fun i z h => ?_⟩⟩
  match i,h with
  | 0,h => cases h; refine ⟨?_,?_,?_⟩ <;> (rw [World.cell?_alloc_lt _ _ _ (by simp),World.cell?_alloc_lt _ _ _ (by simp),World.cell?_alloc_at _ _ _ _ (by simp)]; rfl)
  | 1,h => cases h; refine ⟨?_,?_,?_⟩ <;> (rw [World.cell?_alloc_lt _ _ _ (by simp),World.cell?_alloc_lt _ _ _ (by simp),World.cell?_alloc_at _ _ _ _ (by simp)]; rfl)
  | n+2,h => simp [exD] at h
 ·have h1:=ls_new2 ((w.alloc (.cells #[.slice (some ⟨w.heap.size+1+1,0,none⟩) 2 2,.slice (some ⟨w.heap.size+1+1+1,0,none⟩) 2 2,.int .i64 1,.int .i64 0,.int .i64 1,.int .i64 1] 38)).alloc (.cells #[.string ⟨#[120]⟩,.int .i64 (-2),.int .i64 5,.string ⟨#[121]⟩,.int .i64 0,.int .i64 1073741825] 74)) 4 3
  simp only [World.size_alloc] at h1
  exact h1.later IntR.lasts (below_alloc _ _)
 ·have h1:=ls_new2 (((w.alloc (.cells #[.slice (some ⟨w.heap.size+1+1,0,none⟩) 2 2,.slice (some ⟨w.heap.size+1+1+1,0,none⟩) 2 2,.int .i64 1,.int .i64 0,.int .i64 1,.int .i64 1] 38)).alloc (.cells #[.string ⟨#[120]⟩,.int .i64 (-2),.int .i64 5,.string ⟨#[121]⟩,.int .i64 0,.int .i64 1073741825] 74)).alloc (.cells #[.int .i64 4,.int .i64 3] 3)) 1 0
  simp only [World.size_alloc] at h1
  exact h1
 ·exact (below_alloc _ _).trans (((below_alloc _ _).mono (by simp)).trans (((below_alloc _ _).mono (by simp; omega)).trans ((below_alloc _ _).mono (by simp; omega))))
end Go.Proofs.YtdbnebhehiiakaaGreatDoor
