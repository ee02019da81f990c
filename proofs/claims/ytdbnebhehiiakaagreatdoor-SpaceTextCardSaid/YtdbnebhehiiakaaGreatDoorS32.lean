/- Arguments of the laws of space as they are read: dimensions, attributes, cells, arrays, layouts, boxes, databases. -/
import Derived.OpenShut
import Derived.Deep.Slices
import Derived.Deep.Strs
import Derived.Test.YtdbnebhehiiakaaGreatDoorS5
import Derived.Test.YtdbnebhehiiakaaGreatDoorS6
namespace Go.Proofs.YtdbnebhehiiakaaGreatDoor
open Go.RowKit Go.Deep Go.WideShapes Go.ChangeShapes
structure I64 (n:Int):Prop where
 lo : -9223372036854775808≤n
 hi:n≤9223372036854775807
theorem I64.of {n:Int} (h:(Lit.int .i64 n).wf=true):I64 n:=⟨(bounds_i64 h).1,(bounds_i64 h).2⟩
structure VaW (x:Va):Prop where
 kind:I64 x.kind
 num:I64 x.num
 den:I64 x.den
 str:x.str.length≤maxLen
structure DimW (d:DimT):Prop where
 name:d.name.length≤maxLen
 lo:I64 d.lo
 hi:I64 d.hi
structure AttrW (a:AttrT):Prop where
 name:a.name.length≤maxLen
 ty:I64 a.ty
structure CellW (c:CellT):Prop where
 co:∀ n ∈ c.co,I64 n
 vals:∀ x ∈ c.vals,VaW x
structure ArrW (x:ArrT):Prop where
 dims:∀ d ∈ x.dims,DimW d
 attrs:∀ a ∈ x.attrs,AttrW a
 cells:∀ c ∈ x.cells,CellW c
theorem strD_of {l:List DimT} (h:∀ d ∈ l,DimW d):StrD l:=fun x hx => (h x hx).name
theorem strA_of {l:List AttrT} (h:∀ d ∈ l,AttrW d):StrA l:=fun x hx => (h x hx).name
instance:Inhabited Va:=⟨zeroV⟩
instance:Inhabited DimT:=⟨⟨[],0,0⟩⟩
instance:Inhabited AttrT:=⟨⟨[],0⟩⟩
instance:Inhabited CellT:=⟨⟨[],[]⟩⟩
theorem spot_none {w:World} {a:Addr} {v:Value} (h:w.cell? a=some v):a.spot=none:=by
 unfold World.cell? at h
 cases hsp:a.spot with
 | none => rfl
 | some x =>
  rw [hsp] at h
  split at h
  ·simp at h
  ·cases h
section
variable {H:Type} {enc:TypeId × Value→H} {w:World} {base:Nat} {spare:Nat→Bool} {held:Bool}
theorem open_ls {α:Type} [Inhabited α] {k:Nat} {Rd:World→Nat→Nat→α→Prop} {P:α→Prop} {T E:TypeId} (hu:Tryz.prog.underlying T=some (.slice E)) (hk:Tryz.prog.cellsOf E=k)
  (step:∀ (fuel:Nat) (cs:List Value) (x:DataW H × List MemPlace) (a:Addr),w.cells? base a k=some cs→DataW.trod enc Tryz.prog w base spare held fuel E cs=some x→∃ y,P y∧∃ g o,a=⟨g,o,none⟩∧Rd w g o y)
  {fuel:Nat} {cs:List Value} {x:DataW H × List MemPlace} (h:DataW.trod enc Tryz.prog w base spare held fuel T cs=some x) :
  ∃ v l,cs=[v]∧Ls k Rd w v l∧(∀ y ∈ l,P y):=by
 rcases open_slice hu h with ⟨rfl,-⟩ | ⟨a,len,cap,m,n,D,Pl,rfl,-,hl,hm,hmm,-,hx⟩
 ·exact ⟨_,[],rfl,Ls.nil _ _ _ (by omega),fun _ h => by simp at h⟩
 ·have hlm:len≤m:=by rw [hmm]; split <;> omega
  unfold maxLen at hm
  have key:∀ i,i<len→∃ y:α,P y∧∃ g o,a.add (i * k)=⟨g,o,none⟩∧Rd w g o y:=by
   intro i hi
   obtain ⟨cs',h1,h2⟩:=hx i (by omega)
   rw [hk] at h1
   exact step _ _ _ _ h1 h2
  by_cases h0:len=0
  ·subst h0
   exact ⟨_,[],rfl,Ls.nil _ _ _ hm,fun _ h => by simp at h⟩
  ·obtain ⟨y,hy⟩:=choose_lt (α:=α) key
   obtain ⟨g,o,s⟩:=a
   obtain rfl:s=none:=by
    obtain ⟨-,g',o',e,-⟩:=hy 0 (by omega)
    rw [Nat.zero_mul] at e
    cases s with
    | none => rfl
    | some s => simp [Addr.add] at e
   refine ⟨_,(List.range len).map y,rfl,⟨some ⟨g,o,none⟩,cap,by simp,by simpa using hl,hm,fun _ => ⟨g,o,rfl,fun i z hz => ?_⟩⟩,fun z hz => ?_⟩
   ·rw [List.getElem?_map] at hz
    by_cases hi:i<len
    ·rw [List.getElem?_range hi] at hz
     simp only [Option.map_some,Option.some.injEq] at hz
     subst hz
     obtain ⟨-,g',o',e,hr⟩:=hy i hi
     rw [Addr.add_mid] at e
     injection e with e1 e2
     subst e1 e2
     exact hr
    ·rw [List.getElem?_eq_none (by simpa using hi)] at hz; simp at hz
   ·rw [List.mem_map] at hz
    obtain ⟨i,hi,rfl⟩:=hz
    exact (hy i (by simpa using hi)).1
theorem cells_at {k:Nat} {a:Addr} {cs:List Value} (h:w.cells? base a (k+1)=some cs) :
  ∃ g o,a=⟨g,o,none⟩∧cs.length=k+1∧∀ i (hi:i<cs.length),w.cell? ⟨g,o+i,none⟩=some cs[i]:=by
 obtain ⟨_,hlen,hcell⟩:=World.cells?_some h
 have k0:=hcell 0 (by omega)
 obtain ⟨g,o,s⟩:=a
 have hs:(⟨g,o,s⟩:Addr).spot=none:=spot_none (v:=cs[0]) (by rw [List.getElem?_eq_getElem (by omega)] at k0; simpa [Addr.add] using k0)
 simp only at hs
 subst hs
 refine ⟨g,o,rfl,hlen,fun i hi => ?_⟩
 have:=hcell i (by omega)
 rw [Addr.add_mid] at this
 rw [this,List.getElem?_eq_getElem hi]
theorem open_int' {T:TypeId} (hu:Tryz.prog.underlying T=some (.int .i64)) {fuel:Nat} {cs:List Value} {x:DataW H × List MemPlace} (h:DataW.trod enc Tryz.prog w base spare held fuel T cs=some x) :
  ∃ n,cs=[.int .i64 n]∧I64 n:=by
 obtain ⟨n,rfl,-,hw⟩:=DataW.trod_int hu h
 exact ⟨n,rfl,I64.of hw⟩
theorem open_str' {fuel:Nat} {cs:List Value} {x:DataW H × List MemPlace} (h:DataW.trod enc Tryz.prog w base spare held fuel 9 cs=some x) :
  ∃ s:List UInt8,cs=[.string ⟨s.toArray⟩]∧s.length≤maxLen:=by
 obtain ⟨s,e,-,hw⟩:=DataW.trod_string Tryz.underlying9 h
 exact ⟨s.data.toList,by rw [e],by simpa using hw⟩
theorem open_ints {fuel:Nat} {cs:List Value} {x:DataW H × List MemPlace} (h:DataW.trod enc Tryz.prog w base spare held fuel 36 cs=some x) :
  ∃ v l,cs=[v]∧Ints w v l∧∀ n ∈ l,I64 n :=
 open_ls Tryz.underlying36 (by kernel_rfl) (fun fuel cs x a h1 h2 => by
  obtain ⟨n,rfl,hw⟩:=open_int' Tryz.underlying3 h2
  obtain ⟨g,o,rfl,-,hc⟩:=cells_at (k:=0) h1
  exact ⟨n,hw,g,o,rfl,hc 0 (by simp)⟩) h
set_option maxRecDepth 100000 in
theorem open_valC {fuel:Nat} {cs:List Value} {x:DataW H × List MemPlace} (h:DataW.trod enc Tryz.prog w base spare held fuel 59 cs=some x) :
  ∃ y:Va,cs=[.int .i64 y.kind,.int .i64 y.num,.int .i64 y.den,.string ⟨y.str.toArray⟩]∧VaW y:=by
 obtain ⟨xs,n,-,-,hl,hxl,hf⟩:=DataW.trod_struct Tryz.underlying59 h
 have c4:Tryz.prog.cellsOf 59 = 4:=by kernel_rfl
 have ci:Tryz.prog.cellsOf 3 = 1:=by kernel_rfl
 have cl:Tryz.prog.cellsOf 2 = 1:=by kernel_rfl
 have cs1:Tryz.prog.cellsOf 9 = 1:=by kernel_rfl
 rw [c4] at hl
 have hx4:xs.length=4:=hxl
 match cs,hl with
 | [v0,v1,v2,v3],_ =>
  have f0:=hf 0 ⟨"Kind",3,0,false,"","",0⟩ rfl
  have f1:=hf 1 ⟨"N",2,1,false,"","",8⟩ rfl
  have f2:=hf 2 ⟨"D",2,2,false,"","",16⟩ rfl
  have f3:=hf 3 ⟨"S",9,3,false,"","",24⟩ rfl
  rw [ci] at f0
  rw [cl] at f1 f2
  rw [cs1] at f3
  simp only [List.drop_zero,List.drop_succ_cons,List.take_succ_cons,List.take_zero] at f0 f1 f2 f3
  rw [List.getElem?_eq_getElem (by omega)] at f0 f1 f2 f3
  obtain ⟨k,e0,w0⟩:=open_int' Tryz.underlying3 f0
  obtain ⟨p,e1,w1⟩:=open_int' Tryz.underlying2 f1
  obtain ⟨q,e2,w2⟩:=open_int' Tryz.underlying2 f2
  obtain ⟨s,e3,w3⟩:=open_str' f3
  cases e0
  cases e1
  cases e2
  cases e3
  exact ⟨⟨k,p,q,s⟩,by simp,w0,w1,w2,w3⟩
theorem open_valsL {fuel:Nat} {cs:List Value} {x:DataW H × List MemPlace} (h:DataW.trod enc Tryz.prog w base spare held fuel 60 cs=some x) :
  ∃ v l,cs=[v]∧Vals w v l∧∀ n ∈ l,VaW n :=
 open_ls Tryz.underlying60 (by kernel_rfl) (fun fuel cs x a h1 h2 => by
  obtain ⟨y,rfl,hw⟩:=open_valC h2
  obtain ⟨g,o,rfl,-,hc⟩:=cells_at (k:=3) h1
  exact ⟨y,hw,g,o,rfl,hc 0 (by simp),hc 1 (by simp),hc 2 (by simp),hc 3 (by simp)⟩) h
set_option maxRecDepth 100000 in
theorem open_dims {fuel:Nat} {cs:List Value} {x:DataW H × List MemPlace} (h:DataW.trod enc Tryz.prog w base spare held fuel 22 cs=some x) :
  ∃ v l,cs=[v]∧Dims w v l∧∀ n ∈ l,DimW n :=
 open_ls Tryz.underlying22 (by kernel_rfl) (fun fuel cs x a h1 h2 => by
  obtain ⟨g,o,rfl,hl,hc⟩:=cells_at (k:=2) h1
  obtain ⟨y0,y1,y2,n,-,-,f0,f1,f2⟩:=trod_struct3 Tryz.underlying74 h2
  have ci:Tryz.prog.cellsOf 3 = 1:=by kernel_rfl
  have cs1:Tryz.prog.cellsOf 9 = 1:=by kernel_rfl
  match cs,hl with
  | [v0,v1,v2],_ =>
   simp only [ci,cs1,List.drop_zero,List.drop_succ_cons,List.take_succ_cons,List.take_zero] at f0 f1 f2
   obtain ⟨s,e0,w0⟩:=open_str' f0
   obtain ⟨p,e1,w1⟩:=open_int' Tryz.underlying3 f1
   obtain ⟨q,e2,w2⟩:=open_int' Tryz.underlying3 f2
   cases e0
   cases e1
   cases e2
   exact ⟨⟨s,p,q⟩,⟨w0,w1,w2⟩,g,o,rfl,hc 0 (by simp),hc 1 (by simp),hc 2 (by simp)⟩) h
set_option maxRecDepth 100000 in
theorem open_attrs {fuel:Nat} {cs:List Value} {x:DataW H × List MemPlace} (h:DataW.trod enc Tryz.prog w base spare held fuel 23 cs=some x) :
  ∃ v l,cs=[v]∧Attrs w v l∧∀ n ∈ l,AttrW n :=
 open_ls Tryz.underlying23 (by kernel_rfl) (fun fuel cs x a h1 h2 => by
  obtain ⟨g,o,rfl,hl,hc⟩:=cells_at (k:=1) h1
  obtain ⟨y0,y1,n,-,-,f0,f1⟩:=trod_struct2 Tryz.underlying81 h2
  have ci:Tryz.prog.cellsOf 3 = 1:=by kernel_rfl
  have cs1:Tryz.prog.cellsOf 9 = 1:=by kernel_rfl
  match cs,hl with
  | [v0,v1],_ =>
   simp only [ci,cs1,List.drop_zero,List.drop_succ_cons,List.take_succ_cons,List.take_zero] at f0 f1
   obtain ⟨s,e0,w0⟩:=open_str' f0
   obtain ⟨p,e1,w1⟩:=open_int' Tryz.underlying3 f1
   cases e0
   cases e1
   exact ⟨⟨s,p⟩,⟨w0,w1⟩,g,o,rfl,hc 0 (by simp),hc 1 (by simp)⟩) h
set_option maxRecDepth 100000 in
theorem open_cells {fuel:Nat} {cs:List Value} {x:DataW H × List MemPlace} (h:DataW.trod enc Tryz.prog w base spare held fuel 24 cs=some x) :
  ∃ v l,cs=[v]∧CellsA w v l∧∀ n ∈ l,CellW n :=
 open_ls Tryz.underlying24 (by kernel_rfl) (fun fuel cs x a h1 h2 => by
  obtain ⟨g,o,rfl,hl,hc⟩:=cells_at (k:=1) h1
  obtain ⟨y0,y1,n,-,-,f0,f1⟩:=trod_struct2 Tryz.underlying62 h2
  have ci:Tryz.prog.cellsOf 36 = 1:=by kernel_rfl
  have cs1:Tryz.prog.cellsOf 60 = 1:=by kernel_rfl
  match cs,hl with
  | [v0,v1],_ =>
   simp only [ci,cs1,List.drop_zero,List.drop_succ_cons,List.take_succ_cons,List.take_zero] at f0 f1
   obtain ⟨u0,l0,e0,q0,w0⟩:=open_ints f0
   obtain ⟨u1,l1,e1,q1,w1⟩:=open_valsL f1
   cases e0
   cases e1
   exact ⟨⟨l0,l1⟩,⟨w0,w1⟩,g,o,rfl,⟨_,_,hc 0 (by simp),hc 1 (by simp),q0,q1⟩⟩) h
set_option maxRecDepth 100000 in
theorem open_array {fuel:Nat} {cs:List Value} {x:DataW H × List MemPlace} (h:DataW.trod enc Tryz.prog w base spare held fuel 26 cs=some x) :
  ∃ vd va vc y,cs=[vd,va,vc]∧ArrR w vd va vc y∧ArrW y:=by
 obtain ⟨y0,y1,y2,n,-,hl,f0,f1,f2⟩:=trod_struct3 Tryz.underlying26 h
 have c3:Tryz.prog.cellsOf 26 = 3:=by kernel_rfl
 have c0:Tryz.prog.cellsOf 22 = 1:=by kernel_rfl
 have c1:Tryz.prog.cellsOf 23 = 1:=by kernel_rfl
 have c2:Tryz.prog.cellsOf 24 = 1:=by kernel_rfl
 rw [c3] at hl
 match cs,hl with
 | [v0,v1,v2],_ =>
  simp only [c0,c1,c2,List.drop_zero,List.drop_succ_cons,List.take_succ_cons,List.take_zero] at f0 f1 f2
  obtain ⟨u0,l0,e0,q0,w0⟩:=open_dims f0
  obtain ⟨u1,l1,e1,q1,w1⟩:=open_attrs f1
  obtain ⟨u2,l2,e2,q2,w2⟩:=open_cells f2
  cases e0
  cases e1
  cases e2
  exact ⟨_,_,_,⟨l0,l1,l2⟩,rfl,⟨q0,q1,q2⟩,w0,w1,w2⟩
end
end Go.Proofs.YtdbnebhehiiakaaGreatDoor
