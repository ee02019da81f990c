/- Lemmas and contracts, each under its own condition: The laws' examples: tesseractlaw02.Array. The laws' examples: their values. The laws' examples: the order of Hilbert's curve in a box of 3 by 2. The laws' examples: tesseractlaw02.works, from what space.Print returns. The example of the chapter: its string; works() returns true. -/
import Derived.Test.YtdbnebhehiiakaaGreatDoorS10
import Derived.Test.YtdbnebhehiiakaaGreatDoorS14
import Derived.Test.YtdbnebhehiiakaaGreatDoorS16
import Derived.Test.YtdbnebhehiiakaaGreatDoorS5
import Derived.Test.YtdbnebhehiiakaaGreatDoorSameA
import Derived.Test.YtdbnebhehiiakaaGreatDoorV2
namespace Go.Proofs.YtdbnebhehiiakaaGreatDoor
open Go.RowKit
theorem array1_any (x:Int) (w:World):Calls Tryz.prog 67 #[.int .i64 x] w (fun e w' => e=.returned (.slice (some ⟨w.heap.size,0,none⟩) 1 1)∧w'=w.alloc (.cells #[.int .i64 2,.int .i64 x,.int .i64 1,.string ⟨#[]⟩] 59)):=by
 go_enter Tryz.func67,Tryz.ntmps67
 go_wp2
 go_ret
 exact ⟨rfl,rfl⟩
def exA:ArrT:=⟨[⟨[120],0,3⟩,⟨[121],0,1⟩],[⟨[118],2⟩],[⟨[0,0],[⟨2,5,1,[]⟩]⟩,⟨[1,0],[⟨2,7,1,[]⟩]⟩,⟨[1,1],[⟨0,1,0,[]⟩]⟩,⟨[3,1],[⟨2,2,1,[]⟩]⟩]⟩
set_option maxHeartbeats 8000000 in
theorem array_any (w:World):Calls Tryz.prog 28 #[] w (fun e w' => ∃ vd va vc,e=.returned (.agg #[vd,va,vc])∧ArrR w' vd va vc exA∧Below w.heap.size w w'):=by
 have C:=Lib.hid array1_any
 go_enter Tryz.func28,Tryz.ntmps28
 go_wp2_with (go_at_call 67; refine (C.out _ _).mono ?_; rintro e w1 ⟨rfl,rfl⟩)
 refine bodyPost_ret (by simp [results,Tryz.results28,go_sem]; try rfl) rfl ?_
 refine ⟨_,_,_,rfl,⟨?_,?_,?_⟩,?_⟩
 ·refine ⟨_,_,rfl,Nat.le_refl _,by decide,fun _ => ⟨_,_,rfl,fun i z h => ?_⟩⟩
  match i,h with
  | 0,h => cases h; refine ⟨?_,?_,?_⟩ <;> ((repeat (first | (refine Eq.trans (World.cell?_alloc_lt _ _ _ ?_) ?_; · (simp only [World.size_alloc]; omega)) | (refine Eq.trans (World.cell?_alloc_at _ _ _ _ ?_) ?_; · (simp only [World.size_alloc])))); rfl)
  | 1,h => cases h; refine ⟨?_,?_,?_⟩ <;> ((repeat (first | (refine Eq.trans (World.cell?_alloc_lt _ _ _ ?_) ?_; · (simp only [World.size_alloc]; omega)) | (refine Eq.trans (World.cell?_alloc_at _ _ _ _ ?_) ?_; · (simp only [World.size_alloc])))); rfl)
  | n+2,h => simp [exA] at h
 ·refine ⟨_,_,rfl,Nat.le_refl _,by decide,fun _ => ⟨_,_,rfl,fun i z h => ?_⟩⟩
  match i,h with
  | 0,h => cases h; refine ⟨?_,?_⟩ <;> ((repeat (first | (refine Eq.trans (World.cell?_alloc_lt _ _ _ ?_) ?_; · (simp only [World.size_alloc]; omega)) | (refine Eq.trans (World.cell?_alloc_at _ _ _ _ ?_) ?_; · (simp only [World.size_alloc])))); rfl)
  | n+1,h => simp [exA] at h
 ·refine ⟨_,_,rfl,Nat.le_refl _,by decide,fun _ => ⟨_,_,rfl,fun i z h => ?_⟩⟩
  match i,h with
  | 0,h => cases h; exact ⟨⟨_,_,by ((repeat (first | (refine Eq.trans (World.cell?_alloc_lt _ _ _ ?_) ?_; · (simp only [World.size_alloc]; omega)) | (refine Eq.trans (World.cell?_alloc_at _ _ _ _ ?_) ?_; · (simp only [World.size_alloc])))); rfl),by ((repeat (first | (refine Eq.trans (World.cell?_alloc_lt _ _ _ ?_) ?_; · (simp only [World.size_alloc]; omega)) | (refine Eq.trans (World.cell?_alloc_at _ _ _ _ ?_) ?_; · (simp only [World.size_alloc])))); rfl),by (refine ⟨_,_,rfl,Nat.le_refl _,by decide,fun _ => ⟨_,_,rfl,fun i z h => ?_⟩⟩; match i,h with | 0,h => (cases h; show World.cell? _ _=_; ((repeat (first | (refine Eq.trans (World.cell?_alloc_lt _ _ _ ?_) ?_; · (simp only [World.size_alloc]; omega)) | (refine Eq.trans (World.cell?_alloc_at _ _ _ _ ?_) ?_; · (simp only [World.size_alloc])))); rfl)) | 1,h => (cases h; show World.cell? _ _=_; ((repeat (first | (refine Eq.trans (World.cell?_alloc_lt _ _ _ ?_) ?_; · (simp only [World.size_alloc]; omega)) | (refine Eq.trans (World.cell?_alloc_at _ _ _ _ ?_) ?_; · (simp only [World.size_alloc])))); rfl)) | n+2,h => (simp at h)),by (refine ⟨_,_,rfl,Nat.le_refl _,by decide,fun _ => ⟨_,_,rfl,fun i z h => ?_⟩⟩; match i,h with | 0,h => (cases h; refine ⟨?_,?_,?_,?_⟩ <;> ((repeat (first | (refine Eq.trans (World.cell?_alloc_lt _ _ _ ?_) ?_; · (simp only [World.size_alloc]; omega)) | (refine Eq.trans (World.cell?_alloc_at _ _ _ _ ?_) ?_; · (simp only [World.size_alloc])))); rfl)) | n+1,h => (simp at h))⟩⟩
  | 1,h => cases h; exact ⟨⟨_,_,by ((repeat (first | (refine Eq.trans (World.cell?_alloc_lt _ _ _ ?_) ?_; · (simp only [World.size_alloc]; omega)) | (refine Eq.trans (World.cell?_alloc_at _ _ _ _ ?_) ?_; · (simp only [World.size_alloc])))); rfl),by ((repeat (first | (refine Eq.trans (World.cell?_alloc_lt _ _ _ ?_) ?_; · (simp only [World.size_alloc]; omega)) | (refine Eq.trans (World.cell?_alloc_at _ _ _ _ ?_) ?_; · (simp only [World.size_alloc])))); rfl),by (refine ⟨_,_,rfl,Nat.le_refl _,by decide,fun _ => ⟨_,_,rfl,fun i z h => ?_⟩⟩; match i,h with | 0,h => (cases h; show World.cell? _ _=_; ((repeat (first | (refine Eq.trans (World.cell?_alloc_lt _ _ _ ?_) ?_; · (simp only [World.size_alloc]; omega)) | (refine Eq.trans (World.cell?_alloc_at _ _ _ _ ?_) ?_; · (simp only [World.size_alloc])))); rfl)) | 1,h => (cases h; show World.cell? _ _=_; ((repeat (first | (refine Eq.trans (World.cell?_alloc_lt _ _ _ ?_) ?_; · (simp only [World.size_alloc]; omega)) | (refine Eq.trans (World.cell?_alloc_at _ _ _ _ ?_) ?_; · (simp only [World.size_alloc])))); rfl)) | n+2,h => (simp at h)),by (refine ⟨_,_,rfl,Nat.le_refl _,by decide,fun _ => ⟨_,_,rfl,fun i z h => ?_⟩⟩; match i,h with | 0,h => (cases h; refine ⟨?_,?_,?_,?_⟩ <;> ((repeat (first | (refine Eq.trans (World.cell?_alloc_lt _ _ _ ?_) ?_; · (simp only [World.size_alloc]; omega)) | (refine Eq.trans (World.cell?_alloc_at _ _ _ _ ?_) ?_; · (simp only [World.size_alloc])))); rfl)) | n+1,h => (simp at h))⟩⟩
  | 2,h => cases h; exact ⟨⟨_,_,by ((repeat (first | (refine Eq.trans (World.cell?_alloc_lt _ _ _ ?_) ?_; · (simp only [World.size_alloc]; omega)) | (refine Eq.trans (World.cell?_alloc_at _ _ _ _ ?_) ?_; · (simp only [World.size_alloc])))); rfl),by ((repeat (first | (refine Eq.trans (World.cell?_alloc_lt _ _ _ ?_) ?_; · (simp only [World.size_alloc]; omega)) | (refine Eq.trans (World.cell?_alloc_at _ _ _ _ ?_) ?_; · (simp only [World.size_alloc])))); rfl),by (refine ⟨_,_,rfl,Nat.le_refl _,by decide,fun _ => ⟨_,_,rfl,fun i z h => ?_⟩⟩; match i,h with | 0,h => (cases h; show World.cell? _ _=_; ((repeat (first | (refine Eq.trans (World.cell?_alloc_lt _ _ _ ?_) ?_; · (simp only [World.size_alloc]; omega)) | (refine Eq.trans (World.cell?_alloc_at _ _ _ _ ?_) ?_; · (simp only [World.size_alloc])))); rfl)) | 1,h => (cases h; show World.cell? _ _=_; ((repeat (first | (refine Eq.trans (World.cell?_alloc_lt _ _ _ ?_) ?_; · (simp only [World.size_alloc]; omega)) | (refine Eq.trans (World.cell?_alloc_at _ _ _ _ ?_) ?_; · (simp only [World.size_alloc])))); rfl)) | n+2,h => (simp at h)),by (refine ⟨_,_,rfl,Nat.le_refl _,by decide,fun _ => ⟨_,_,rfl,fun i z h => ?_⟩⟩; match i,h with | 0,h => (cases h; refine ⟨?_,?_,?_,?_⟩ <;> ((repeat (first | (refine Eq.trans (World.cell?_alloc_lt _ _ _ ?_) ?_; · (simp only [World.size_alloc]; omega)) | (refine Eq.trans (World.cell?_alloc_at _ _ _ _ ?_) ?_; · (simp only [World.size_alloc])))); rfl)) | n+1,h => (simp at h))⟩⟩
  | 3,h => cases h; exact ⟨⟨_,_,by ((repeat (first | (refine Eq.trans (World.cell?_alloc_lt _ _ _ ?_) ?_; · (simp only [World.size_alloc]; omega)) | (refine Eq.trans (World.cell?_alloc_at _ _ _ _ ?_) ?_; · (simp only [World.size_alloc])))); rfl),by ((repeat (first | (refine Eq.trans (World.cell?_alloc_lt _ _ _ ?_) ?_; · (simp only [World.size_alloc]; omega)) | (refine Eq.trans (World.cell?_alloc_at _ _ _ _ ?_) ?_; · (simp only [World.size_alloc])))); rfl),by (refine ⟨_,_,rfl,Nat.le_refl _,by decide,fun _ => ⟨_,_,rfl,fun i z h => ?_⟩⟩; match i,h with | 0,h => (cases h; show World.cell? _ _=_; ((repeat (first | (refine Eq.trans (World.cell?_alloc_lt _ _ _ ?_) ?_; · (simp only [World.size_alloc]; omega)) | (refine Eq.trans (World.cell?_alloc_at _ _ _ _ ?_) ?_; · (simp only [World.size_alloc])))); rfl)) | 1,h => (cases h; show World.cell? _ _=_; ((repeat (first | (refine Eq.trans (World.cell?_alloc_lt _ _ _ ?_) ?_; · (simp only [World.size_alloc]; omega)) | (refine Eq.trans (World.cell?_alloc_at _ _ _ _ ?_) ?_; · (simp only [World.size_alloc])))); rfl)) | n+2,h => (simp at h)),by (refine ⟨_,_,rfl,Nat.le_refl _,by decide,fun _ => ⟨_,_,rfl,fun i z h => ?_⟩⟩; match i,h with | 0,h => (cases h; refine ⟨?_,?_,?_,?_⟩ <;> ((repeat (first | (refine Eq.trans (World.cell?_alloc_lt _ _ _ ?_) ?_; · (simp only [World.size_alloc]; omega)) | (refine Eq.trans (World.cell?_alloc_at _ _ _ _ ?_) ?_; · (simp only [World.size_alloc])))); rfl)) | n+1,h => (simp at h))⟩⟩
  | n+4,h => simp [exA] at h
 ·refine ⟨rfl,rfl,rfl,by simp; omega,fun k hk => ?_⟩
  repeat (refine (Below.heap_alloc _ _ _ (by simp; omega)).trans ?_)
  exact Below.heap_alloc _ _ _ hk
theorem ex_chunkE:chunkE exD exL [1,7]=0:=by kernel_rfl
theorem ex_chunkQ:chunkQ exD exL [1,7]=[0,2]:=by kernel_rfl
theorem ex_homesQ:(homesQ exD exL [1,7]).length=2:=by kernel_rfl
theorem ex_wideE:widE exD exL [0,2] true=0:=by kernel_rfl
theorem ex_wideQ:widQ exD exL [0,2] true=([-2,6],[2,8]):=by kernel_rfl
theorem ex_str:StrD exD:=by
 intro x hx
 simp only [exD,List.mem_cons,List.not_mem_nil,or_false] at hx
 rcases hx with rfl | rfl <;> decide
theorem ex_check:checkE exA=0:=by kernel_rfl
def exH:List (List Int):=[[0,0],[1,0],[1,1],[0,1],[2,1],[2,0]]
abbrev exS:LayT:=⟨[],[],2,0,0,0⟩
theorem ex_sorted:SortK (fun x => keyF 2 0 (bitsL 0 [0,0] [2,1]) (subL x [0,0])) exH:=by
 unfold SortK leK
 decide +kernel
theorem ex_perm:exH.Perm (ptsL [0,0] [2,1]):=by decide +kernel
theorem ex_apart:∀ x ∈ ptsL [0,0] [2,1],∀ y ∈ ptsL [0,0] [2,1],keyF 2 0 (bitsL 0 [0,0] [2,1]) (subL x [0,0])=keyF 2 0 (bitsL 0 [0,0] [2,1]) (subL y [0,0])→x=y:=by decide +kernel
theorem ex_seq (r:List (List Int)) (h:SortedBy exS [0,0] [2,1] r):r=exH :=
 sortK_unique (h.1.trans ex_perm.symm) h.2 ex_sorted fun x hx y hy => ex_apart x (h.1.mem_iff.1 hx) y (h.1.mem_iff.1 hy)
theorem ex_seq_any (vs vo vlo vhi:Value) (w:World) (hl:LayR w vs vo exS) (hlo:Ints w vlo [0,0]) (hhi:Ints w vhi [2,1]) :
  Calls Tryz.prog 19 #[layV vs vo exS,.agg #[vlo,vhi]] w (fun e w' => ∃ v,e=.returned (.tuple #[v,.int .i64 0])∧RowsI w' v exH∧Below w.heap.size w w'):=by
 refine (seq_core vs vo vlo vhi exS [0,0] [2,1] w hl hlo hhi (by decide) (by kernel_rfl) (by kernel_rfl) (by kernel_rfl) (by decide) (by decide)).mono ?_
 rintro e w' ⟨v,l,rfl,h1,h2,h3⟩
 rw [ex_seq l h1] at h2
 exact ⟨v,rfl,h2,h3⟩
def exTxt:ByteArray:=⟨#[100,105,109,32,120,32,48,58,51,10,100,105,109,32,121,32,48,58,49,10,97,116,116,114,32,118,32,105,110,116,10,48,32,48,58,32,53,10,49,32,48,58,32,55,10,49,32,49,58,32,63,49,10,51,32,49,58,32,50,10]⟩
def PrintsEx:Prop:=∀ (vd va vc:Value) (w:World),Ml w→ArrR w vd va vc exA→Calls Tryz.prog 7 #[.agg #[vd,va,vc]] w (fun e w' => e=.returned (.tuple #[.string exTxt,.int .i64 0])∧Below w.heap.size w w')
theorem ls_new2' {w w':World} {g:Nat} {x y:Int} (hg:g=w.heap.size) (hb:Below (w.heap.size+1) (w.alloc (.cells #[.int .i64 x,.int .i64 y] 3)) w'):Ints w' (.slice (some ⟨g,0,none⟩) 2 2) [x,y]:=by
 subst hg
 exact (ls_new2 w x y).later IntR.lasts (hb.mono (by simp))
theorem chunk_ex {q:List Int} {r:Int} (hq:chunkQ exD exL [1,7]=q) (hr:chunkE exD exL [1,7]=r) (vd vs vo vc:Value) (w:World) (hd:Dims w vd exD) (hl:LayR w vs vo exL) (hc:Ints w vc [1,7]) :
  Calls Tryz.prog 13 #[vd,layV vs vo exL,vc] w (RetIs q r w):=by
 subst hq hr
 exact chunk_any exD exL [1,7] vd vs vo vc w hd hl hc ex_str
theorem homes_ex {q:List (List Int)} {r:Int} (hq:homesQ exD exL [1,7]=q) (hr:chunkE exD exL [1,7]=r) (vd vs vo vc:Value) (w:World) (hd:Dims w vd exD) (hl:LayR w vs vo exL) (hc:Ints w vc [1,7]) :
  Calls Tryz.prog 24 #[vd,layV vs vo exL,vc] w (RetPts q r w):=by
 subst hq hr
 exact homes_any exD exL [1,7] vd vs vo vc w hd hl hc ex_str
theorem wide_ex {q:List Int × List Int} {r:Int} (hq:widQ exD exL [0,2] true=q) (hr:widE exD exL [0,2] true=r) (vd vs vo vc:Value) (w:World) (hd:Dims w vd exD) (hl:LayR w vs vo exL) (hc:Ints w vc [0,2]) :
  Calls Tryz.prog 25 #[vd,layV vs vo exL,vc] w (RetBx q r w):=by
 subst hq hr
 exact wide_any exD exL [0,2] vd vs vo vc w hd hl hc ex_str (by intro x hx; simp at hx; omega)
theorem check_ex (vd va vc:Value) (w:World) (ha:ArrR w vd va vc exA):Calls Tryz.prog 29 #[.agg #[vd,va,vc]] w (RetV' (.int .i64 0) w):=by
 have:=checkA_any exA vd va vc w ha (by
  intro x hx
  simp only [exA,List.mem_cons,List.not_mem_nil,or_false] at hx
  rcases hx with rfl | rfl <;> decide) (by
  intro x hx
  simp only [exA,List.mem_cons,List.not_mem_nil,or_false] at hx
  rcases hx with rfl
  decide)
 rwa [ex_check] at this
theorem rows_new6 (w:World):RowsI (((((((w.alloc (.cells #[.int .i64 0,.int .i64 0] 3)).alloc (.cells #[.int .i64 1,.int .i64 0] 3)).alloc (.cells #[.int .i64 1,.int .i64 1] 3)).alloc (.cells #[.int .i64 0,.int .i64 1] 3)).alloc (.cells #[.int .i64 2,.int .i64 1] 3)).alloc (.cells #[.int .i64 2,.int .i64 0] 3)).alloc
  (.cells #[.slice (some ⟨w.heap.size,0,none⟩) 2 2,.slice (some ⟨w.heap.size+1,0,none⟩) 2 2,.slice (some ⟨w.heap.size+1+1,0,none⟩) 2 2,.slice (some ⟨w.heap.size+1+1+1,0,none⟩) 2 2,.slice (some ⟨w.heap.size+1+1+1+1,0,none⟩) 2 2,.slice (some ⟨w.heap.size+1+1+1+1+1,0,none⟩) 2 2] 36)) (.slice (some ⟨w.heap.size+1+1+1+1+1+1,0,none⟩) 6 6) exH:=by
 refine ⟨_,_,rfl,Nat.le_refl _,by decide,fun _ => ⟨_,_,rfl,fun i z h => ?_⟩⟩
 match i,h with
 | 0,h => cases h; exact ⟨⟨_,by ((repeat (first | (refine Eq.trans (World.cell?_alloc_lt _ _ _ ?_) ?_; · (simp only [World.size_alloc]; omega)) | (refine Eq.trans (World.cell?_alloc_at _ _ _ _ ?_) ?_; · (first | exact rfl | simp only [World.size_alloc])))); rfl),by (refine ⟨_,_,rfl,Nat.le_refl _,by decide,fun _ => ⟨_,_,rfl,fun i z h => ?_⟩⟩; match i,h with | 0,h => (cases h; show World.cell? _ _=_; ((repeat (first | (refine Eq.trans (World.cell?_alloc_lt _ _ _ ?_) ?_; · (simp only [World.size_alloc]; omega)) | (refine Eq.trans (World.cell?_alloc_at _ _ _ _ ?_) ?_; · (first | exact rfl | simp only [World.size_alloc])))); rfl)) | 1,h => (cases h; show World.cell? _ _=_; ((repeat (first | (refine Eq.trans (World.cell?_alloc_lt _ _ _ ?_) ?_; · (simp only [World.size_alloc]; omega)) | (refine Eq.trans (World.cell?_alloc_at _ _ _ _ ?_) ?_; · (first | exact rfl | simp only [World.size_alloc])))); rfl)) | n+2,h => (simp at h))⟩⟩
 | 1,h => cases h; exact ⟨⟨_,by ((repeat (first | (refine Eq.trans (World.cell?_alloc_lt _ _ _ ?_) ?_; · (simp only [World.size_alloc]; omega)) | (refine Eq.trans (World.cell?_alloc_at _ _ _ _ ?_) ?_; · (first | exact rfl | simp only [World.size_alloc])))); rfl),by (refine ⟨_,_,rfl,Nat.le_refl _,by decide,fun _ => ⟨_,_,rfl,fun i z h => ?_⟩⟩; match i,h with | 0,h => (cases h; show World.cell? _ _=_; ((repeat (first | (refine Eq.trans (World.cell?_alloc_lt _ _ _ ?_) ?_; · (simp only [World.size_alloc]; omega)) | (refine Eq.trans (World.cell?_alloc_at _ _ _ _ ?_) ?_; · (first | exact rfl | simp only [World.size_alloc])))); rfl)) | 1,h => (cases h; show World.cell? _ _=_; ((repeat (first | (refine Eq.trans (World.cell?_alloc_lt _ _ _ ?_) ?_; · (simp only [World.size_alloc]; omega)) | (refine Eq.trans (World.cell?_alloc_at _ _ _ _ ?_) ?_; · (first | exact rfl | simp only [World.size_alloc])))); rfl)) | n+2,h => (simp at h))⟩⟩
 | 2,h => cases h; exact ⟨⟨_,by ((repeat (first | (refine Eq.trans (World.cell?_alloc_lt _ _ _ ?_) ?_; · (simp only [World.size_alloc]; omega)) | (refine Eq.trans (World.cell?_alloc_at _ _ _ _ ?_) ?_; · (first | exact rfl | simp only [World.size_alloc])))); rfl),by (refine ⟨_,_,rfl,Nat.le_refl _,by decide,fun _ => ⟨_,_,rfl,fun i z h => ?_⟩⟩; match i,h with | 0,h => (cases h; show World.cell? _ _=_; ((repeat (first | (refine Eq.trans (World.cell?_alloc_lt _ _ _ ?_) ?_; · (simp only [World.size_alloc]; omega)) | (refine Eq.trans (World.cell?_alloc_at _ _ _ _ ?_) ?_; · (first | exact rfl | simp only [World.size_alloc])))); rfl)) | 1,h => (cases h; show World.cell? _ _=_; ((repeat (first | (refine Eq.trans (World.cell?_alloc_lt _ _ _ ?_) ?_; · (simp only [World.size_alloc]; omega)) | (refine Eq.trans (World.cell?_alloc_at _ _ _ _ ?_) ?_; · (first | exact rfl | simp only [World.size_alloc])))); rfl)) | n+2,h => (simp at h))⟩⟩
 | 3,h => cases h; exact ⟨⟨_,by ((repeat (first | (refine Eq.trans (World.cell?_alloc_lt _ _ _ ?_) ?_; · (simp only [World.size_alloc]; omega)) | (refine Eq.trans (World.cell?_alloc_at _ _ _ _ ?_) ?_; · (first | exact rfl | simp only [World.size_alloc])))); rfl),by (refine ⟨_,_,rfl,Nat.le_refl _,by decide,fun _ => ⟨_,_,rfl,fun i z h => ?_⟩⟩; match i,h with | 0,h => (cases h; show World.cell? _ _=_; ((repeat (first | (refine Eq.trans (World.cell?_alloc_lt _ _ _ ?_) ?_; · (simp only [World.size_alloc]; omega)) | (refine Eq.trans (World.cell?_alloc_at _ _ _ _ ?_) ?_; · (first | exact rfl | simp only [World.size_alloc])))); rfl)) | 1,h => (cases h; show World.cell? _ _=_; ((repeat (first | (refine Eq.trans (World.cell?_alloc_lt _ _ _ ?_) ?_; · (simp only [World.size_alloc]; omega)) | (refine Eq.trans (World.cell?_alloc_at _ _ _ _ ?_) ?_; · (first | exact rfl | simp only [World.size_alloc])))); rfl)) | n+2,h => (simp at h))⟩⟩
 | 4,h => cases h; exact ⟨⟨_,by ((repeat (first | (refine Eq.trans (World.cell?_alloc_lt _ _ _ ?_) ?_; · (simp only [World.size_alloc]; omega)) | (refine Eq.trans (World.cell?_alloc_at _ _ _ _ ?_) ?_; · (first | exact rfl | simp only [World.size_alloc])))); rfl),by (refine ⟨_,_,rfl,Nat.le_refl _,by decide,fun _ => ⟨_,_,rfl,fun i z h => ?_⟩⟩; match i,h with | 0,h => (cases h; show World.cell? _ _=_; ((repeat (first | (refine Eq.trans (World.cell?_alloc_lt _ _ _ ?_) ?_; · (simp only [World.size_alloc]; omega)) | (refine Eq.trans (World.cell?_alloc_at _ _ _ _ ?_) ?_; · (first | exact rfl | simp only [World.size_alloc])))); rfl)) | 1,h => (cases h; show World.cell? _ _=_; ((repeat (first | (refine Eq.trans (World.cell?_alloc_lt _ _ _ ?_) ?_; · (simp only [World.size_alloc]; omega)) | (refine Eq.trans (World.cell?_alloc_at _ _ _ _ ?_) ?_; · (first | exact rfl | simp only [World.size_alloc])))); rfl)) | n+2,h => (simp at h))⟩⟩
 | 5,h => cases h; exact ⟨⟨_,by ((repeat (first | (refine Eq.trans (World.cell?_alloc_lt _ _ _ ?_) ?_; · (simp only [World.size_alloc]; omega)) | (refine Eq.trans (World.cell?_alloc_at _ _ _ _ ?_) ?_; · (first | exact rfl | simp only [World.size_alloc])))); rfl),by (refine ⟨_,_,rfl,Nat.le_refl _,by decide,fun _ => ⟨_,_,rfl,fun i z h => ?_⟩⟩; match i,h with | 0,h => (cases h; show World.cell? _ _=_; ((repeat (first | (refine Eq.trans (World.cell?_alloc_lt _ _ _ ?_) ?_; · (simp only [World.size_alloc]; omega)) | (refine Eq.trans (World.cell?_alloc_at _ _ _ _ ?_) ?_; · (first | exact rfl | simp only [World.size_alloc])))); rfl)) | 1,h => (cases h; show World.cell? _ _=_; ((repeat (first | (refine Eq.trans (World.cell?_alloc_lt _ _ _ ?_) ?_; · (simp only [World.size_alloc]; omega)) | (refine Eq.trans (World.cell?_alloc_at _ _ _ _ ?_) ?_; · (first | exact rfl | simp only [World.size_alloc])))); rfl)) | n+2,h => (simp at h))⟩⟩
 | n+6,h => simp [exH] at h
theorem belowAll7 (w:World) (o1 o2 o3 o4 o5 o6 o7:Obj):Below w.heap.size w (((((((w.alloc o1).alloc o2).alloc o3).alloc o4).alloc o5).alloc o6).alloc o7) :=
 below_keep (below_keep (below_keep (below_keep (below_keep (below_keep (below_alloc _ _) (below_alloc _ _)) (below_alloc _ _)) (below_alloc _ _)) (below_alloc _ _)) (below_alloc _ _)) (below_alloc _ _)
set_option maxRecDepth 100000 in
set_option maxHeartbeats 8000000 in
theorem works_of (hP:PrintsEx) (w:World) (hm:Ml w):Calls Tryz.prog 6 #[] w (RetV' (.bool true) w):=by
 have HP:=Lib.hid hP
 have HS:=Lib.hid (sides_any w)
 have HM:=Lib.hid hm
 clear hP hm
 go_enter Tryz.func6,Tryz.ntmps6
 go_wp2_with fail
 refine HS.out.mono ?_
 rintro e w1 ⟨vd,vs,vo,rfl,hd,hl,hb⟩
 have HB1:=Lib.hid hb
 obtain ⟨qh,hqh⟩:∃ q,homesQ exD exL [1,7]=q:=⟨_,rfl⟩
 have hlh:qh.length=2:=hqh ▸ ex_homesQ
 have C1:=Lib.hid (fun (w2:World) (vc:Value) (hb:Below w1.heap.size w1 w2) (hc:Ints w2 vc [1,7]) => chunk_ex ex_chunkQ ex_chunkE vd vs vo vc w2 (hd.later DimR.lasts hb) (hl.later hb) hc)
 have C2:=Lib.hid (fun (w2:World) (vc:Value) (hb:Below w1.heap.size w1 w2) (hc:Ints w2 vc [1,7]) => homes_ex hqh ex_chunkE vd vs vo vc w2 (hd.later DimR.lasts hb) (hl.later hb) hc)
 have C3:=Lib.hid (fun (w2:World) (vc:Value) (hb:Below w1.heap.size w1 w2) (hc:Ints w2 vc [0,2]) => wide_ex ex_wideQ ex_wideE vd vs vo vc w2 (hd.later DimR.lasts hb) (hl.later hb) hc)
 obtain ⟨p1,cap1,rfl,-⟩:=hd.shape
 obtain ⟨p2,cap2,rfl,-⟩:=hl.sides.shape
 obtain ⟨p3,cap3,rfl,-⟩:=hl.over.shape
 clear hd hl hb HS hqh
 go_wp2_with fail
 refine (C1.out _ _ ?_ ?_).mono ?_
 ·exact (below_alloc _ _).trans ((below_alloc _ _).mono (by simp))
 ·exact ls_new2' (by simp) (Below.refl _ _)
 rintro e w2 ⟨v2,rfl,hi2,hb⟩
 have HB2:=Lib.hid (((below_alloc _ _).trans ((below_alloc _ _).mono (by simp))).trans (hb.mono (by simp; omega)))
 have HI2:=Lib.hid hi2
 have hL:∀ j,w2.cell? ⟨w1.heap.size,j,none⟩=(w1.alloc (.cells #[.slice p2 exL.sides.length cap2,.slice p3 exL.over.length cap3,.int .i64 exL.order,.int .i64 exL.tile,.int .i64 exL.form,.int .i64 exL.codec] 38)).cell? ⟨w1.heap.size,j,none⟩:=fun j =>
  (hb.cell (p:=⟨w1.heap.size,j,none⟩) (by simp; omega)).trans (World.cell?_alloc_lt _ _ _ (by simp))
 have HLC:Hid (w2.cell? ⟨w1.heap.size,0,none⟩=some (.slice p2 exL.sides.length cap2)∧w2.cell? ⟨w1.heap.size,1,none⟩=some (.slice p3 exL.over.length cap3)∧w2.cell? ⟨w1.heap.size,2,none⟩=some (.int .i64 exL.order)∧w2.cell? ⟨w1.heap.size,3,none⟩=some (.int .i64 exL.tile)∧w2.cell? ⟨w1.heap.size,4,none⟩=some (.int .i64 exL.form)∧w2.cell? ⟨w1.heap.size,5,none⟩=some (.int .i64 exL.codec)):=by
  refine ⟨?_,?_,?_,?_,?_,?_⟩ <;> (rw [hL,World.cell?_alloc_at _ _ _ _ rfl]; rfl)
 have HG1:Hid (w1.heap.size<w2.heap.size):=by show _<_; have:=hb.size; simp at this; omega
 obtain ⟨a2,c2,e2,-⟩:=hi2.ints.shape
 subst e2
 clear hb hi2 hL C1
 obtain ⟨l0,l1,l2,l3,l4,l5⟩:=HLC.out
 have hg1:=HG1.out
 have hg2:w1.heap.size ≠ w2.heap.size:=Nat.ne_of_lt hg1
 go_wp2_with fail
 refine (C2.out _ _ ?_ ?_).mono ?_
 ·exact below_keep HB2.out (below_alloc _ _)
 ·exact ls_new2' rfl (Below.refl _ _)
 rintro e w3 ⟨v3,rfl,hr3,hb⟩
 have HB23:=Lib.hid (below_keep (below_alloc _ _) hb)
 have HB3:=Lib.hid (below_keep HB2.out HB23.out)
 have hr3':=hr3.rows
 obtain ⟨a3,c3,e3,-⟩:=hr3'.shape
 subst e3
 have l0:=cell_later HLC.out.1 HB23.out
 have l1:=cell_later HLC.out.2.1 HB23.out
 have l2:=cell_later HLC.out.2.2.1 HB23.out
 have l3:=cell_later HLC.out.2.2.2.1 HB23.out
 have l4:=cell_later HLC.out.2.2.2.2.1 HB23.out
 have l5:=cell_later HLC.out.2.2.2.2.2 HB23.out
 have hg1:=Nat.lt_of_lt_of_le HG1.out HB23.out.size
 have hg2:w1.heap.size ≠ w3.heap.size:=Nat.ne_of_lt hg1
 clear hb hr3 hr3' C2
 go_wp2_with fail
 refine (C3.out _ _ ?_ ?_).mono ?_
 ·exact below_keep HB3.out (below_alloc _ _)
 ·exact ls_new2' rfl (Below.refl _ _)
 rintro e w4 ⟨v4,v5,rfl,hi4,hi5,hb⟩
 have HB34:=Lib.hid (below_keep (below_alloc _ _) hb)
 have HB4:=Lib.hid (below_keep HB3.out HB34.out)
 have HI4:=Lib.hid hi4
 have HI5:=Lib.hid hi5
 have HI24:=Lib.hid ((HI2.out.later HB23.out).later HB34.out)
 obtain ⟨a4,c4,e4,-⟩:=hi4.ints.shape
 obtain ⟨a5,c5,e5,-⟩:=hi5.ints.shape
 subst e4 e5
 clear hb hi4 hi5 C3 l0 l1 l2 l3 l4 l5 hg1 hg2
 go_wp2_with fail
 refine (sameInts_any [0,2] [0,2] _ _ _ ?_ ?_).mono ?_
 ·exact ((HI24.out.later (below_alloc _ _)).later (below_alloc _ _)).ints
 ·exact ls_new2' (by simp) (Below.refl _ _)
 rintro e w5 h
 obtain ⟨rfl,hb⟩:=h.below
 have hd4:decide (([0,2]:List Int)=[0,2])=true:=by decide
 have HB45:=Lib.hid (((below_alloc _ _).trans ((below_alloc _ _).mono (by simp))).trans (hb.mono (by simp; omega)))
 have hq:∀ j,w5.cell? ⟨w4.heap.size,j,none⟩=(w4.alloc (.cells #[.slice a4 2 c4,.slice a5 2 c5] 44)).cell? ⟨w4.heap.size,j,none⟩:=fun j =>
  (hb.cell (p:=⟨w4.heap.size,j,none⟩) (by simp; omega)).trans (World.cell?_alloc_lt _ _ _ (by simp))
 have m0:w5.cell? ⟨w4.heap.size,0,none⟩=some (.slice a4 2 c4):=by rw [hq,World.cell?_alloc_at _ _ _ _ rfl]; rfl
 have m1:w5.cell? ⟨w4.heap.size,1,none⟩=some (.slice a5 2 c5):=by rw [hq,World.cell?_alloc_at _ _ _ _ rfl]; rfl
 have HB5:=Lib.hid (below_keep HB4.out HB45.out)
 have HI45:=Lib.hid (HI4.out.later HB45.out)
 have HI55:=Lib.hid (HI5.out.later HB45.out)
 clear hb hq
 rw [hd4]
 go_wp2_with fail
 refine (sameBox_any [-2,6] [2,8] [-2,6] [2,8] _ _ _ _ _ ?_ ?_ ?_ ?_).mono ?_
 ·exact ((HI45.out.later (below_alloc _ _)).later (below_alloc _ _)).ints
 ·exact ((HI55.out.later (below_alloc _ _)).later (below_alloc _ _)).ints
 ·exact ls_new2' rfl ((below_alloc _ _).mono (by simp))
 ·exact ls_new2' (by simp) (Below.refl _ _)
 rintro e w6 ⟨rfl,hb⟩
 have hd5:(decide (([-2,6]:List Int)=[-2,6]) && decide (([2,8]:List Int)=[2,8]))=true:=by decide
 have HB6:=Lib.hid (below_keep HB5.out (((below_alloc _ _).trans ((below_alloc _ _).mono (by simp))).trans (hb.mono (by simp; omega))))
 clear hb m0 m1
 rw [hd5]
 go_wp2_with fail
 refine (ex_seq_any (.slice none 0 0) (.slice none 0 0) _ _ _ ⟨Ls.nil _ _ _ (by omega),Ls.nil _ _ _ (by omega)⟩ ?_ ?_).mono ?_
 ·exact ls_new2' rfl ((below_alloc _ _).mono (by simp))
 ·exact ls_new2' (by simp) (Below.refl _ _)
 rintro e w7 ⟨v7,rfl,hr7,hb⟩
 have HB7:=Lib.hid (below_keep HB6.out (((below_alloc _ _).trans ((below_alloc _ _).mono (by simp))).trans (hb.mono (by simp; omega))))
 have HR7:=Lib.hid hr7
 obtain ⟨a7,c7,e7,-⟩:=hr7.shape
 subst e7
 clear hb hr7
 have SX:Hid (∀ y,RowsI y (.slice a7 exH.length c7) exH→∀ u,RowsI y u exH→Calls Tryz.prog 20 #[.slice a7 exH.length c7,u] y (RetV' (.bool true) y)):=fun y h1 u h2 => by
  have:=sameRows_any exH exH (.slice a7 exH.length c7) u y h1 h2
  rwa [decide_eq_true rfl] at this
 go_wp2_with fail
 refine (SX.out _ (HR7.out.later RowR.lasts (belowAll7 _ _ _ _ _ _ _ _)) _ (rows_new6 _)).mono ?_
 rintro e w8 ⟨rfl,hb⟩
 have HB8:=Lib.hid (below_keep HB7.out (below_keep (belowAll7 _ _ _ _ _ _ _ _) hb))
 clear hb SX
 go_wp2_with fail
 refine (array_any _).mono ?_
 rintro e w9 ⟨va,vb,vc,rfl,ha,hb⟩
 have HB9:=Lib.hid (below_keep HB8.out hb)
 have PX:=Lib.hid (HP.out va vb vc w9 (HM.out.later (below_keep HB1.out HB9.out)) ha)
 obtain ⟨z1,k1,rfl,-⟩:=ha.dims.shape
 obtain ⟨z2,k2,rfl,-⟩:=ha.attrs.shape
 obtain ⟨z3,k3,rfl,-⟩:=ha.cells.shape
 clear hb ha
 go_wp2_with fail
 refine PX.out.mono ?_
 rintro e w10 ⟨rfl,hb⟩
 have HB10:=Lib.hid (below_keep HB9.out hb)
 clear hb PX
 unfold exTxt
 go_wp2_with fail
 refine (array_any _).mono ?_
 rintro e w11 ⟨va,vb,vc,rfl,ha,hb⟩
 have HB11:=Lib.hid (below_keep HB10.out hb)
 have CX:=Lib.hid (check_ex va vb vc w11 ha)
 obtain ⟨z4,k4,rfl,-⟩:=ha.dims.shape
 obtain ⟨z5,k5,rfl,-⟩:=ha.attrs.shape
 obtain ⟨z6,k6,rfl,-⟩:=ha.cells.shape
 clear hb ha
 go_wp2_with fail
 refine CX.out.mono ?_
 rintro e w12 ⟨rfl,hb⟩
 have HB12:=Lib.hid (below_keep HB11.out hb)
 clear hb CX
 go_wp2
 go_ret
 exact ⟨rfl,below_keep HB1.out HB12.out⟩
theorem take_flat {α β:Type} (l:List α) (f:α→List β) (i:Nat):((l.take i).flatMap f).length≤(l.flatMap f).length:=by
 have h:l.flatMap f=(l.take i).flatMap f ++ (l.drop i).flatMap f:=by rw [← List.flatMap_append,List.take_append_drop]
 rw [h,List.length_append]
 omega
set_option maxRecDepth 100000 in
theorem prints_ex:PrintsEx:=by
 intro vd va vc w hm hx
 have e:strV (prW exA)=.string exTxt:=by kernel_rfl
 rw [← e]
 refine print_small exA vd va vc w hm hx ?_ ?_ (by kernel_rfl) (fun i => ?_) (fun i => ?_) ?_ (fun i => ?_) ?_ ?_ ?_
 ·have:∀ x ∈ exA.dims,x.name.length≤9:=by decide +kernel
  exact fun x hx => Nat.le_trans (this x hx) (by decide)
 ·have:∀ x ∈ exA.attrs,x.name.length≤9:=by decide +kernel
  exact fun x hx => Nat.le_trans (this x hx) (by decide)
 ·exact Nat.le_trans (take_flat _ _ _) (by decide +kernel)
 ·exact Nat.le_trans (take_flat _ _ _) (by decide +kernel)
 ·decide +kernel
 ·exact Nat.le_trans (take_flat _ _ _) (by decide +kernel)
 ·have:∀ c ∈ exA.cells,(∀ j,j<c.co.length+1→(coW c.co j).length≤1000000)∧∀ j,j<c.vals.length+1→(vaW c.vals j).length≤1000000:=by decide +kernel
  exact fun c hc => ⟨fun j hj => (this c hc).1 j (by omega),fun j hj => (this c hc).2 j (by omega)⟩
 ·decide +kernel
 ·decide +kernel
theorem works_any (w:World) (hm:Ml w):Calls Tryz.prog 6 #[] w (RetV' (.bool true) w):=works_of prints_ex w hm
end Go.Proofs.YtdbnebhehiiakaaGreatDoor
