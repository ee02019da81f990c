/- append(out, append([]int{a}, row...)) in one drawn region: what is known while it runs. -/
import Derived.Deep.Upon
import Derived.Test.YtdbnebhehiiakaaGreatDoorS28
import Derived.Test.YtdbnebhehiiakaaGreatDoorS8
import Derived.Test.YtdbnebhehiiakaaGreatDoorS9
namespace Go.Proofs.YtdbnebhehiiakaaGreatDoor
open Go.RowKit
theorem append_ints (w:World) (base:Nat) (hb:base≤w.heap.size) (v:Value) (l:List Int) (hown:w.ownsRow base 3 1 v l.length (l.map (Value.int .i64))) (u:Value) (l2:List Int) (hu:Ints w u l2) (hlen:l.length+l2.length≤1000000) (ty:TypeId) :
  ∃ v' w',(Builtin.append_ #[36,36] ty #[v,u]).run Tryz.prog w=.ok v' w'∧w'.ownsRow base 3 1 v' (l.length+l2.length) ((l ++ l2).map (Value.int .i64))∧w.grownBy w' v.ownBlock:=by
 obtain ⟨i0,hi0,hz0,hz1,hz2⟩:=info_parts infoZ
 obtain ⟨a,cap,rfl,hlc,hcm,hx0⟩:=hu
 rcases Nat.eq_zero_or_pos l2.length with h0 | h0
 ·obtain rfl:l2=[]:=List.length_eq_zero_iff.1 h0
  refine ⟨v,w,?_,by simpa using hown,⟨rfl,rfl,rfl,Nat.le_refl _,fun _ _ _ => rfl⟩⟩
  have hs:Src Tryz.prog i0.size 36 (.slice a 0 cap) 0 [] w:=⟨.inl ⟨_,Tryz.underlying36⟩,fun w' => rfl,by cases a <;> simp [Builtin.firstCells,loadCells,loadCellsFrom],by cases a <;> simp [Builtin.firstCells,loadCells,loadCellsFrom],by simp,fun u hu => by cases hu⟩
  rcases hown.2 with ⟨rfl,h9⟩ | ⟨g,c9,cur,rfl,k1,k2,k3,-⟩
  ·exact run_append_nothing w _ _ _ _ i0 Tryz.underlying36 hi0 none 0 0 (Nat.le_refl _) _ hs
  ·exact run_append_nothing w _ _ _ _ i0 Tryz.underlying36 hi0 _ _ _ k3 _ hs
 ·obtain ⟨g,o,rfl,hx⟩:=hx0 h0
  obtain ⟨g1,cp1,w',hrun,hn,hgr,-,-⟩:=run_append_lies (P:=Tryz.prog) w 36 ty base 3 i0 (.int .i64 0) 1 8 Tryz.underlying36 hi0 hz0 hz1 hz2 rfl (by decide) v l.length _ hown ⟨g,o,none⟩ l2.length cap (l2.map (Value.int .i64)) (by simp) (fun j u hj => by
   rw [List.getElem?_map] at hj
   cases hj2:l2[j]? with
   | none => rw [hj2] at hj; cases hj
   | some x =>
    rw [hj2] at hj
    have hj:=Option.some.inj hj
    subst hj
    have:=hx j x hj2
    rw [Nat.mul_one] at this
    rw [show (⟨g,o,none⟩:Addr).add j=⟨g,o+j,none⟩ from by unfold Addr.add; split <;> simp_all]
    exact this) (fun u hu => by
   obtain ⟨x,-,rfl⟩:=List.mem_map.1 hu
   rfl) h0 (by unfold maxLen; omega) (by omega) hb _ rfl
  exact ⟨_,w',hrun,by rw [List.map_append]; exact hn,hgr⟩
section
variable {VL:List (Option Value)} {n1:Nat} {W:World} {v:Value} {rows:List (List Int)} {A:Int} {row:List Int} {dn:Nat→Bool} {vals:Nat→Value} {w:World}
end
end Go.Proofs.YtdbnebhehiiakaaGreatDoor
