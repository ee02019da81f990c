/- Lemmas and contracts, each under its own condition: Boxes: Has, of the program and of the reference. Boxes: the common part in plain words. -/
import Derived.BigQuiet
import Derived.Test.YtdbnebhehiiakaaGreatDoorS10
import Derived.Test.YtdbnebhehiiakaaGreatDoorS11
namespace Go.Proofs.YtdbnebhehiiakaaGreatDoor
open Go.RowKit
def upB (x h:Int):Bool:=decide (x≤h ∨ 1073741825≤h)
theorem upTo_any (x h:Int) (w:World):Calls Tryz.prog 64 #[.int .i64 x,.int .i64 h] w (fun e w' => e=.returned (.bool (upB x h))∧w'=w):=by
 unfold upB
 by_cases h1:x≤h
 ·rw [decide_eq_true (.inl h1)]
  go_enter Tryz.func64,Tryz.ntmps64
  go_wp2
  go_ret
  exact ⟨rfl,rfl⟩
 ·rw [show decide (x≤h ∨ 1073741825≤h)=decide (1073741825≤h) from by rw [decide_eq_decide]; exact ⟨fun h => h.resolve_left h1,.inr⟩]
  go_enter Tryz.func64,Tryz.ntmps64
  go_wp2
  go_ret
  exact ⟨rfl,rfl⟩
def min3 (c e:Int):Int:=if (1073741825:Int)<(if e<c then e else c) then 1073741825 else if e<c then e else c
def interL:List Int→List Int→List Int→List Int→List Int→List Int→Option (List Int × List Int)
 | lo,hi,a :: al,c :: ah,b :: bl,e :: bh => if upB (max a b) (min3 c e)=true then interL (lo ++ [max a b]) (hi ++ [min3 c e]) al ah bl bh else none
 | lo,hi,_,_,_,_ => some (lo,hi)
def interB (al ah bl bh:List Int):Option (List Int × List Int) :=
 if formedB al ah=true∧formedB bl bh=true∧al.length=bl.length then interL [] [] al ah bl bh else none
theorem interL_drop {lo hi al ah bl bh:List Int} {i:Nat} {a c b e:Int} (ha:al[i]? = some a) (hc:ah[i]? = some c) (hb:bl[i]? = some b) (he:bh[i]? = some e) :
  interL lo hi (al.drop i) (ah.drop i) (bl.drop i) (bh.drop i)=if upB (max a b) (min3 c e)=true then interL (lo ++ [max a b]) (hi ++ [min3 c e]) (al.drop (i+1)) (ah.drop (i+1)) (bl.drop (i+1)) (bh.drop (i+1)) else none:=by
 rw [drop_cons ha,drop_cons hc,drop_cons hb,drop_cons he,interL]
def RetBxB (b:Option (List Int × List Int)) (w:World) (e:Ending) (w':World):Prop:=∃ v1 v2,e=.returned (.tuple #[.agg #[v1,v2],.bool b.isSome])∧IntsO w' v1 (b.getD ([],[])).1∧IntsO w' v2 (b.getD ([],[])).2∧Below w.heap.size w w'
theorem box3_at (w:World) (v1 v2 u1 u2:Value):∃ W1,W1=((w.alloc (.cells #[v1,v2] 44)).alloc (.cells #[u1,u2] 44)).alloc (.cells #[.slice none 0 0,.slice none 0 0] 44)∧Below w.heap.size w W1∧W1.heap.size=w.heap.size+3 ∧
  ∀ w',Below W1.heap.size W1 w'→w'.cell? ⟨w.heap.size,0,none⟩=some v1∧w'.cell? ⟨w.heap.size,1,none⟩=some v2∧w'.cell? ⟨w.heap.size+1,0,none⟩=some u1∧w'.cell? ⟨w.heap.size+1,1,none⟩=some u2∧ResB w' (w.heap.size+2) (.slice none 0 0) (.slice none 0 0):=by
 refine ⟨_,rfl,((below_alloc _ _).trans ((below_alloc _ _).mono (by simp))).trans ((below_alloc _ _).mono (by simp; omega)),by simp,fun w' hb => ?_⟩
 have h1:∀ j,w'.cell? ⟨w.heap.size,j,none⟩=(w.alloc (.cells #[v1,v2] 44)).cell? ⟨w.heap.size,j,none⟩:=fun j => by
  rw [hb.cell (p:=⟨w.heap.size,j,none⟩) (by simp; omega),World.cell?_alloc_lt _ _ _ (by simp; omega),World.cell?_alloc_lt _ _ _ (by simp)]
 have h2:∀ j,w'.cell? ⟨w.heap.size+1,j,none⟩=((w.alloc (.cells #[v1,v2] 44)).alloc (.cells #[u1,u2] 44)).cell? ⟨w.heap.size+1,j,none⟩:=fun j => by
  rw [hb.cell (p:=⟨w.heap.size+1,j,none⟩) (by simp),World.cell?_alloc_lt _ _ _ (by simp)]
 have hr:=(ResB.made ((w.alloc (.cells #[v1,v2] 44)).alloc (.cells #[u1,u2] 44)) 44).later hb (by simp)
 simp only [World.size_alloc] at hr
 refine ⟨?_,?_,?_,?_,hr⟩
 ·rw [h1,World.cell?_alloc_at _ _ _ _ rfl]; rfl
 ·rw [h1,World.cell?_alloc_at _ _ _ _ rfl]; rfl
 ·rw [h2,World.cell?_alloc_at _ _ _ _ (by simp)]; rfl
 ·rw [h2,World.cell?_alloc_at _ _ _ _ (by simp)]; rfl
end Go.Proofs.YtdbnebhehiiakaaGreatDoor
