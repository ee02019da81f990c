/- Lemmas and contracts, each under its own condition: Copies of cells: both contracts. The reference's CopyCell: the contract. (printed by copycell.py) Arrays that are made: lists of cells that were made, and the region that appends one. -/
import Derived.Deep.Upon
import Derived.Deep.DeepCutAuto
import Derived.Deep.CutBlock
import Derived.Test.YtdbnebhehiiakaaGreatDoorS11
import Derived.Test.YtdbnebhehiiakaaGreatDoorS22
import Derived.Test.YtdbnebhehiiakaaGreatDoorS23
import Derived.Test.YtdbnebhehiiakaaGreatDoorS28
namespace Go.Proofs.YtdbnebhehiiakaaGreatDoor
open Go.RowKit
section
variable {VL:List (Option Value)} {W:World} {g:Nat} {c:CellT} {dn:Nat→Bool} {vals:Nat→Value} {w:World}
end
structure CeO (n:Nat) (w:World) (u1 u2:Value) (c:CellT):Prop where
 i:Ints w u1 c.co
 ti:NewV n w u1 3
 v:Vals w u2 c.vals
 tv:NewV n w u2 59
theorem CeO.grown {n:Nat} {w w':World} {u1 u2:Value} {c:CellT} {row:Option Nat} (h:CeO n w u1 u2 c) (hg:w.grownBy w' row) (hr:∀ r,row=some r→¬ TagB w r 3 ∧ ¬ TagB w r 59):CeO n w' u1 u2 c:=by
 have k1:∀ b,u1.ownBlock=some b→w'.heap[b]? = w.heap[b]?:=fun b hb => hg.block b (h.ti.tag b hb).lt (fun e => (hr b e.symm).1 (h.ti.tag b hb))
 have k2:∀ b,u2.ownBlock=some b→w'.heap[b]? = w.heap[b]?:=fun b hb => hg.block b (h.tv.tag b hb).lt (fun e => (hr b e.symm).2 (h.tv.tag b hb))
 exact ⟨h.i.kept IntR.local k1,h.ti.kept k1,h.v.kept ValR.local k2,h.tv.kept k2⟩
theorem CeO.later {n:Nat} {w w':World} {u1 u2:Value} {c:CellT} (h:CeO n w u1 u2 c) (hb:Below w.heap.size w w'):CeO n w' u1 u2 c:=h.grown (row:=none) (grown_of_below hb none) (fun r e => by cases e)
theorem CeO.base {n m:Nat} {w:World} {u1 u2:Value} {c:CellT} (h:CeO n w u1 u2 c) (hn:m≤n):CeO m w u1 u2 c:=⟨h.i,h.ti.base hn,h.v,h.tv.base hn⟩
structure CellsO (n₀:Nat) (w:World) (v:Value) (l:List CellT):Prop where
 ex:∃ us:List (Value × Value),us.length=l.length∧w.ownsRow n₀ 62 2 v l.length (us.flatMap fun u => [u.1,u.2])∧∀ (i:Nat) (c:CellT) (u:Value × Value),l[i]? = some c→us[i]? = some u→CeO n₀ w u.1 u.2 c
theorem not_tag {w:World} {r:Nat} {T:TypeId} (h:TagB w r T) (h1:T ≠ 3) (h2:T ≠ 59):¬ TagB w r 3 ∧ ¬ TagB w r 59 :=
 ⟨fun h' => h.ne h' h1 rfl,fun h' => h.ne h' h2 rfl⟩
theorem CellsO.nil (n₀:Nat) (w:World):CellsO n₀ w (.slice none 0 0) []:=⟨[],rfl,World.ownsRow_nil _ _ _ _,fun i x u h => by simp at h⟩
theorem CellsO.tag {n₀:Nat} {w:World} {v:Value} {l:List CellT} (h:CellsO n₀ w v l):TagV w v 62:=by
 obtain ⟨us,-,ho,-⟩:=h.ex
 exact ownsRow_tag ho
theorem CellsO.lt {n₀:Nat} {w:World} {v:Value} {l:List CellT} (h:CellsO n₀ w v l):∀ k,v.ownBlock=some k→n₀≤k:=by
 obtain ⟨us,-,ho,-⟩:=h.ex
 exact fun k e => (ho.lt k e).1
theorem CellsO.kept {n₀:Nat} {w w':World} {v:Value} {l:List CellT} {row:Option Nat} (h:CellsO n₀ w v l) (hg:w.grownBy w' row) (h1:∀ r,row=some r→v.ownBlock ≠ some r) (h2:∀ r,row=some r→¬ TagB w r 3 ∧ ¬ TagB w r 59):CellsO n₀ w' v l:=by
 obtain ⟨us,hl,ho,hx⟩:=h
 refine ⟨us,hl,ho.kept hg ?_,fun i x u hi hu => (hx i x u hi hu).grown hg h2⟩
 cases hv:v.ownBlock with
 | none => exact .inl rfl
 | some b => exact .inr fun e => h1 b e.symm hv
theorem CellsO.later {n₀:Nat} {w w':World} {v:Value} {l:List CellT} (h:CellsO n₀ w v l) (hb:Below w.heap.size w w'):CellsO n₀ w' v l :=
 h.kept (row:=none) (grown_of_below hb none) (fun r e => by cases e) (fun r e => by cases e)
theorem CellsO.base {n₀ n:Nat} {w:World} {v:Value} {l:List CellT} (h:CellsO n w v l) (hn:n₀≤n):CellsO n₀ w v l:=by
 obtain ⟨us,hl,ho,hx⟩:=h
 refine ⟨us,hl,⟨ho.1,?_⟩,fun i c u hi hu => (hx i c u hi hu).base hn⟩
 rcases ho.2 with h | ⟨g,cap,cur,e,h1,h2⟩
 ·exact .inl h
 ·exact .inr ⟨g,cap,cur,e,Nat.le_trans hn h1,h2⟩
theorem CellsO.snoc {n₀:Nat} {w w':World} {v v' u1 u2:Value} {l:List CellT} {c:CellT} {us:List (Value × Value)} (hl:us.length=l.length) (ho:w.ownsRow n₀ 62 2 v l.length (us.flatMap fun u => [u.1,u.2])) (hx:∀ (i:Nat) (c:CellT) (u:Value × Value),l[i]? = some c→us[i]? = some u→CeO n₀ w u.1 u.2 c)
  (hn:w'.ownsRow n₀ 62 2 v' (l.length+1) ((us.flatMap fun u => [u.1,u.2]) ++ [u1,u2])) (hg:w.grownBy w' v.ownBlock) (hu:CeO n₀ w u1 u2 c):CellsO n₀ w' v' (l ++ [c]):=by
 have hk:∀ u1 u2 c,CeO n₀ w u1 u2 c→CeO n₀ w' u1 u2 c:=fun u1 u2 c h => h.grown hg fun r e => not_tag (ownsRow_tag ho r e) (by decide) (by decide)
 refine ⟨us ++ [(u1,u2)],by simp [hl],by simpa using hn,fun i y z hi hz => ?_⟩
 by_cases hlt:i<l.length
 ·rw [List.getElem?_append_left hlt] at hi
  rw [List.getElem?_append_left (by omega)] at hz
  exact hk _ _ _ (hx i y z hi hz)
 ·rw [List.getElem?_append_right (by omega)] at hi hz
  rw [hl] at hz
  have h0:i - l.length=0:=by
   have:=(List.getElem?_eq_some_iff.1 hi).1
   simp at this; omega
  rw [h0] at hi hz
  simp only [List.getElem?_cons_zero,Option.some.injEq] at hi hz
  subst hi hz
  exact hk _ _ _ hu
theorem CellsO.cells {n₀:Nat} {w:World} {v:Value} {l:List CellT} (h:CellsO n₀ w v l):CellsA w v l:=by
 obtain ⟨us,hl,ho,hx⟩:=h
 have hc:∀ {g:Nat},v.ownBlock=some g→∀ j u,(us.flatMap fun u => [u.1,u.2])[j]? = some u→w.cell? ((⟨g,0,none⟩:Addr).add j)=some u:=fun hg => ho.cells hg
 rcases ho.2 with ⟨rfl,h0⟩ | ⟨g,cap,cur,rfl,h1,h2,h3,h4,h5,h6⟩
 ·have:l=[]:=List.length_eq_zero_iff.1 h0
  subst this
  exact Ls.nil _ _ _ (by omega)
 ·unfold maxLen at h4
  refine ⟨_,cap,rfl,h3,h4,fun h0 => ⟨g,0,rfl,fun i x hi => ?_⟩⟩
  have hlt:i<us.length:=by rw [hl]; exact (List.getElem?_eq_some_iff.1 hi).1
  have hu:=List.getElem?_eq_getElem hlt
  have f0:=flat_at (k:=2) (f:=fun u:Value × Value => [u.1,u.2]) (fun _ => rfl) us i us[i] 0 us[i].1 hu rfl
  have f1:=flat_at (k:=2) (f:=fun u:Value × Value => [u.1,u.2]) (fun _ => rfl) us i us[i] 1 us[i].2 hu rfl
  have e0:=hc (g:=g) rfl _ _ f0
  have e1:=hc (g:=g) rfl _ _ f1
  rw [show (⟨g,0,none⟩:Addr).add (i * 2+0)=⟨g,0+i * 2,none⟩ from by unfold Addr.add; split <;> simp_all] at e0
  rw [show (⟨g,0,none⟩:Addr).add (i * 2+1)=⟨g,0+i * 2+1,none⟩ from by unfold Addr.add; split <;> simp_all] at e1
  have hce:=hx i x us[i] hi hu
  exact ⟨us[i].1,us[i].2,e0,e1,hce.i,hce.v⟩
section
variable {n₀ g:Nat} {w w':World} {d1 d2 s u v':Value} {D:List DimT} {A:List AttrT} {L:List CellT}
end
section
variable {VL:List (Option Value)} {jc jb ja js n₀ g:Nat} {W:World} {d1 d2 v:Value} {D:List DimT} {A:List AttrT} {L:List CellT} {c:CellT} {dn:Nat→Bool} {vals:Nat→Value} {w w':World}
end
end Go.Proofs.YtdbnebhehiiakaaGreatDoor
