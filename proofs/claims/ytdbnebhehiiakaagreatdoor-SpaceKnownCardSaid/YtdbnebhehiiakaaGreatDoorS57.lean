/- Copies of lists of dimensions, attributes and values: append([]T{}, l...). -/
import Derived.Deep.AppendLies
import Derived.Test.YtdbnebhehiiakaaGreatDoorS9
namespace Go.Proofs.YtdbnebhehiiakaaGreatDoor
open Go.RowKit
structure Cellw {α:Type} (k:Nat) (f:α→List Value) (Rd:World→Nat→Nat→α→Prop):Prop where
 pos:0<k
 len:∀ x,(f x).length=k
 one:∀ x,∀ u ∈ f x,u.oneCell'=true
 rd:∀ w g o x,Rd w g o x→∀ t u,(f x)[t]? = some u→w.cell? ⟨g,o+t,none⟩=some u
 mkR:∀ w g o x,(∀ t u,(f x)[t]? = some u→w.cell? ⟨g,o+t,none⟩=some u)→Rd w g o x
theorem flat_len {α:Type} {k:Nat} {f:α→List Value} (h:∀ x,(f x).length=k) (l:List α):(l.flatMap f).length=l.length * k:=by
 induction l with
 | nil => simp
 | cons x l ih => rw [List.flatMap_cons,List.length_append,ih,h,List.length_cons,Nat.add_mul]; omega
theorem flat_get {α:Type} {k:Nat} {f:α→List Value} (h:∀ x,(f x).length=k):∀ (l:List α) (j:Nat) (u:Value),(l.flatMap f)[j]? = some u→∃ i x t,l[i]? = some x∧(f x)[t]? = some u∧j=i * k+t
 | [],j,u,hj => by simp at hj
 | x :: l,j,u,hj => by
  rw [List.flatMap_cons] at hj
  by_cases hlt:j<k
  ·rw [List.getElem?_append_left (by rw [h]; exact hlt)] at hj
   exact ⟨0,x,j,rfl,hj,by omega⟩
  ·rw [List.getElem?_append_right (by rw [h]; omega),h] at hj
   obtain ⟨i,y,t,h1,h2,h3⟩:=flat_get h l (j - k) u hj
   exact ⟨i+1,y,t,by simpa using h1,h2,by rw [Nat.add_mul]; omega⟩
theorem flat_at {α:Type} {k:Nat} {f:α→List Value} (h:∀ x,(f x).length=k):∀ (l:List α) (i:Nat) (x:α) (t:Nat) (u:Value),l[i]? = some x→(f x)[t]? = some u→(l.flatMap f)[i * k+t]? = some u
 | [],i,x,t,u,h1,_ => by simp at h1
 | y :: l,0,x,t,u,h1,h2 => by
  simp at h1
  subst h1
  have ht:t<k:=by rw [← h y]; exact (List.getElem?_eq_some_iff.1 h2).1
  rw [List.flatMap_cons,Nat.zero_mul,Nat.zero_add,List.getElem?_append_left (by rw [h]; exact ht)]
  exact h2
 | y :: l,i+1,x,t,u,h1,h2 => by
  rw [List.flatMap_cons,List.getElem?_append_right (by rw [h,Nat.add_mul]; omega),h,show (i+1) * k+t - k=i * k+t from by rw [Nat.add_mul]; omega]
  exact flat_at h l i x t u (by simpa using h1) h2
theorem Ls.cells {α:Type} {k:Nat} {f:α→List Value} {Rd:World→Nat→Nat→α→Prop} (hc:Cellw k f Rd) {w:World} {g o n cap:Nat} {l:List α} (h:Ls k Rd w (.slice (some ⟨g,o,none⟩) n cap) l) :
  ∀ j u,(l.flatMap f)[j]? = some u→w.cell? ((⟨g,o,none⟩:Addr).add j)=some u:=by
 intro j u hj
 obtain ⟨i,x,t,h1,h2,rfl⟩:=flat_get hc.len l j u hj
 obtain ⟨g',o',y,e,hy,hr⟩:=h.at i (List.getElem?_eq_some_iff.1 h1).1
 rw [h1] at hy
 cases hy
 cases e
 have:=hc.rd _ _ _ _ hr t u h2
 rw [show (⟨g,o,none⟩:Addr).add (i * k+t)=⟨g,o+(i * k+t),none⟩ from by unfold Addr.add; split <;> simp_all,← Nat.add_assoc]
 exact this
theorem Ls.owned {α:Type} {k:Nat} {f:α→List Value} {Rd:World→Nat→Nat→α→Prop} (hc:Cellw k f Rd) {w:World} {base b n cap:Nat} {e:TypeId} {l:List α} (h:w.ownsRow base e k (.slice (some ⟨b,0,none⟩) n cap) n (l.flatMap f)) (hn:l.length=n) :
  Ls k Rd w (.slice (some ⟨b,0,none⟩) n cap) l:=by
 obtain ⟨-,h | ⟨g,c,cur,hv,hb,hh,hnc,hcm,hs,ht⟩⟩:=h
 ·cases h.1
 ·injection hv with e1 e2 e3
  injection e1 with e4
  injection e4 with e5
  subst e3 e5 hn
  unfold maxLen at hcm
  refine ⟨_,cap,rfl,hnc,hcm,fun _ => ⟨b,0,rfl,fun i x hx => hc.mkR _ _ _ _ fun t u hu => ?_⟩⟩
  have hf:=flat_at hc.len l i x t u hx hu
  have hj:i * k+t<l.length * k:=by rw [← flat_len hc.len]; exact (List.getElem?_eq_some_iff.1 hf).1
  rw [← ht,List.getElem?_take_of_lt hj] at hf
  rw [Nat.zero_add,cell_of_row w b (i * k+t) cur e (0,0) hh]
  simpa using hf
structure NewV (n:Nat) (w:World) (v:Value) (T:TypeId):Prop where
 own:∀ b,v.ownBlock=some b→n≤b∧∃ cs,w.heap[b]? = some (.cells cs T (0,0))
theorem NewV.tag {n:Nat} {w:World} {v:Value} {T:TypeId} (h:NewV n w v T):TagV w v T:=fun b hb => (h.own b hb).2.elim fun cs hc => ⟨cs,_,hc⟩
theorem NewV.nil (k:Nat) (w:World) (n cap:Nat) (T:TypeId):NewV k w (.slice none n cap) T:=⟨fun b h => by cases h⟩
theorem NewV.kept {n:Nat} {w w':World} {v:Value} {T:TypeId} (h:NewV n w v T) (hk:∀ b,v.ownBlock=some b→w'.heap[b]? = w.heap[b]?):NewV n w' v T :=
 ⟨fun b hb => ⟨(h.own b hb).1,(h.own b hb).2.elim fun cs hc => ⟨cs,(hk b hb).trans hc⟩⟩⟩
theorem NewV.later {n:Nat} {w w':World} {v:Value} {T:TypeId} (h:NewV n w v T) (hb:Below w.heap.size w w'):NewV n w' v T:=h.kept fun b hbb => hb.block b (h.tag b hbb).lt
theorem NewV.base {n m:Nat} {w:World} {v:Value} {T:TypeId} (h:NewV n w v T) (hn:m≤n):NewV m w v T:=⟨fun b hb => ⟨Nat.le_trans hn (h.own b hb).1,(h.own b hb).2⟩⟩
theorem NewV.row {n k size:Nat} {w:World} {v:Value} {T:TypeId} {xs:List Value} (h:w.ownsRow n T size v k xs):NewV n w v T:=by
 rcases h.2 with ⟨rfl,_⟩ | ⟨g,cap,cur,rfl,h1,hg,_⟩
 ·exact NewV.nil _ _ _ _ _
 ·refine ⟨fun b hb => ?_⟩
  cases hb
  exact ⟨h1,cur,hg⟩
end Go.Proofs.YtdbnebhehiiakaaGreatDoor
