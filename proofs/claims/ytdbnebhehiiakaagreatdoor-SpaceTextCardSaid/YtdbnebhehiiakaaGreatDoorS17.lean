/- Lemmas and contracts, each under its own condition: The laws of layer 2: short, schema. The laws of layer 2: cells, Few. -/
import Derived.Test.YtdbnebhehiiakaaGreatDoorS4
import Derived.Test.YtdbnebhehiiakaaGreatDoorS5
namespace Go.Proofs.YtdbnebhehiiakaaGreatDoor
open Go.RowKit
theorem lshort_any (l:List UInt8) (w:World):Calls Tryz.prog 65 #[strV l] w (fun e w' => e=.returned (.bool (decide (l.length≤40)))∧w'=w):=by
 have hz:(⟨l.toArray⟩:ByteArray).size=l.length:=rfl
 have e:decide (l.length≤40)=decide (((⟨l.toArray⟩:ByteArray).size:Int)≤40):=by rw [decide_eq_decide,hz]; omega
 rw [e]
 obtain ⟨S,hS⟩:∃ S:ByteArray,S=⟨l.toArray⟩:=⟨_,rfl⟩
 show Calls Tryz.prog 65 #[.string ⟨l.toArray⟩] w _
 rw [← hS]
 clear e hz hS
 go_enter Tryz.func65,Tryz.ntmps65
 go_wp2
 go_ret
 exact ⟨rfl,rfl⟩
structure SchemaS (d:List DimT) (a:List AttrT):Prop where
 dims:d.length≤10
 attrs:a.length≤10
 dname:∀ x ∈ d,x.name.length≤40
 aname:∀ x ∈ a,x.name.length≤40
def RetB (P:Prop) (w:World) (e:Ending) (w':World):Prop:=∃ b:Bool,e=.returned (.bool b)∧(b=true→P)∧w'=w
theorem dname_snoc {d:List DimT} {i:Nat} {x:DimT} (h:d[i]? = some x) (h1:∀ y ∈ d.take i,y.name.length≤40) (h2:x.name.length≤40):∀ y ∈ d.take (i+1),y.name.length≤40:=by
 rw [take_snoc' h]
 intro y hy
 rcases List.mem_append.1 hy with h | h
 ·exact h1 y h
 ·rw [List.mem_singleton.1 h]; exact h2
theorem aname_snoc {d:List AttrT} {i:Nat} {x:AttrT} (h:d[i]? = some x) (h1:∀ y ∈ d.take i,y.name.length≤40) (h2:x.name.length≤40):∀ y ∈ d.take (i+1),y.name.length≤40:=by
 rw [take_snoc' h]
 intro y hy
 rcases List.mem_append.1 hy with h | h
 ·exact h1 y h
 ·rw [List.mem_singleton.1 h]; exact h2
set_option maxHeartbeats 3200000 in
set_option maxRecDepth 100000 in
theorem lschema_any (d:List DimT) (a:List AttrT) (v u:Value) (w:World) (hd:Dims w v d) (ha:Attrs w u a) :
  Calls Tryz.prog 22 #[v,u] w (RetB (SchemaS d a) w):=by
 have HD:=Lib.hid hd
 have HA:=Lib.hid ha
 obtain ⟨av,cap,rfl,c1,c2⟩:=hd.shape
 obtain ⟨au,capu,rfl,u1,u2⟩:=ha.shape
 clear hd ha
 by_cases h1:10<d.length
 ·have t1:decide ((10:Int)<d.length)=true:=decide_eq_true (by omega)
  clear h1
  go_enter Tryz.func22,Tryz.ntmps22
  go_wp2
  go_ret
  exact ⟨false,rfl,(fun h => by cases h),rfl⟩
 ·have t1:decide ((10:Int)<d.length)=false:=decide_eq_false (by omega)
  have H1:Hid (d.length≤10):=by show _≤_; omega
  clear h1
  by_cases h2:10<a.length
  ·have t2:decide ((10:Int)<a.length)=true:=decide_eq_true (by omega)
   clear h2
   go_enter Tryz.func22,Tryz.ntmps22
   go_wp2
   go_ret
   exact ⟨false,rfl,(fun h => by cases h),rfl⟩
  ·have t2:decide ((10:Int)<a.length)=false:=decide_eq_false (by omega)
   have H2:Hid (a.length≤10):=by show _≤_; omega
   clear h2
   go_enter Tryz.func22,Tryz.ntmps22
   go_wp2
   go_loopw [5] (fun iv wr => ∃ i:Nat,i≤d.length∧iv=.int .i64 (i:Nat)∧Hid (∀ y ∈ d.take i,y.name.length≤40)∧Hid (wr=w)) (fun iv _ => d.length - (intOf iv).toNat)
   case atStart => exact ⟨0,Nat.zero_le _,rfl,(by intro y h; cases h),rfl⟩
   case round =>
    obtain ⟨i,hi,rfl,HM,hw⟩:=hrel
    obtain rfl:=hw.out
    by_cases hlt:i<d.length
    ·obtain ⟨g,o,x,ea,hx,hr⟩:=HD.out.at i hlt
     subst ea
     have x0:=hr.name
     have HX:=Lib.hid hx
     obtain ⟨nx,lo,hi'⟩:=x
     simp only at x0
     have HI1:Hid (i+1≤d.length):=hlt
     have HI2:Hid (d.length - (i+1)<d.length - i):=by show _<_; omega
     have ib0:(0:Int)≤(i:Int):=by omega
     have ib1:(i:Int)<(d.length:Int):=by omega
     have C:=Lib.hid (fun w1 => lshort_any nx w1)
     clear hr hx
     by_cases hs:nx.length≤40
     ·have HS:=Lib.hid hs
      rw [decide_eq_true hs] at C
      clear hs
      go_wp2_with fail
      refine (C.out _).mono ?_
      rintro e w1 ⟨rfl,rfl⟩
      clear C
      go_wp2
      exact ⟨⟨i+1,HI1.out,by go_num,dname_snoc HX.out HM.out HS.out,(by first | exact rfl | exact trivial)⟩,HI2.out⟩
     ·rw [decide_eq_false hs] at C
      clear hs
      go_wp2_with fail
      refine (C.out _).mono ?_
      rintro e w1 ⟨rfl,rfl⟩
      clear C
      go_wp2
      go_ret
      exact ⟨false,rfl,(fun h => by cases h),rfl⟩
    ·obtain rfl:i=d.length:=by omega
     have hm:=HM.out
     rw [List.take_length] at hm
     have HMD:=Lib.hid hm
     clear hm HM
     go_wp2
     go_loopw [6] (fun kv wk => ∃ k:Nat,k≤a.length∧kv=.int .i64 (k:Nat)∧Hid (∀ y ∈ a.take k,y.name.length≤40)∧Hid (wk=wr)) (fun kv _ => a.length - (intOf kv).toNat)
     case atStart => exact ⟨0,Nat.zero_le _,rfl,(by intro y h; cases h),rfl⟩
     case round =>
      obtain ⟨k,hk,rfl,HM,hw⟩:=hrel
      obtain rfl:=hw.out
      by_cases hlt:k<a.length
      ·obtain ⟨g,o,x,ea,hx,hr⟩:=HA.out.at k hlt
       subst ea
       have x0:=hr.name
       have HX:=Lib.hid hx
       obtain ⟨nx,ty⟩:=x
       simp only at x0
       have HI1:Hid (k+1≤a.length):=hlt
       have HI2:Hid (a.length - (k+1)<a.length - k):=by show _<_; omega
       have ib0:(0:Int)≤(k:Int):=by omega
       have ib1:(k:Int)<(a.length:Int):=by omega
       have C:=Lib.hid (fun w1 => lshort_any nx w1)
       clear hr hx
       by_cases hs:nx.length≤40
       ·have HS:=Lib.hid hs
        rw [decide_eq_true hs] at C
        clear hs
        go_wp2_with fail
        refine (C.out _).mono ?_
        rintro e w1 ⟨rfl,rfl⟩
        clear C
        go_wp2
        exact ⟨⟨k+1,HI1.out,by go_num,aname_snoc HX.out HM.out HS.out,(by first | exact rfl | exact trivial)⟩,HI2.out⟩
       ·rw [decide_eq_false hs] at C
        clear hs
        go_wp2_with fail
        refine (C.out _).mono ?_
        rintro e w1 ⟨rfl,rfl⟩
        clear C
        go_wp2
        go_ret
        exact ⟨false,rfl,(fun h => by cases h),rfl⟩
      ·obtain rfl:k=a.length:=by omega
       have hm:=HM.out
       rw [List.take_length] at hm
       have HMA:=Lib.hid hm
       clear hm HM
       go_wp2
       go_ret
       exact ⟨true,rfl,fun _ => ⟨H1.out,H2.out,HMD.out,HMA.out⟩,rfl⟩
structure CellS (c:CellT):Prop where
 co:c.co.length≤10
 vals:c.vals.length≤10
 str:∀ x ∈ c.vals,x.str.length≤40
structure CellsS (l:List CellT) (most:Nat):Prop where
 len:l.length≤most
 cell:∀ c ∈ l,CellS c
theorem cellS_snoc {l:List CellT} {i:Nat} {x:CellT} (h:l[i]? = some x) (h1:∀ y ∈ l.take i,CellS y) (h2:CellS x):∀ y ∈ l.take (i+1),CellS y:=by
 rw [take_snoc' h]
 intro y hy
 rcases List.mem_append.1 hy with h | h
 ·exact h1 y h
 ·rw [List.mem_singleton.1 h]; exact h2
theorem strS_snoc {l:List Va} {i:Nat} {x:Va} (h:l[i]? = some x) (h1:∀ y ∈ l.take i,y.str.length≤40) (h2:x.str.length≤40):∀ y ∈ l.take (i+1),y.str.length≤40:=by
 rw [take_snoc' h]
 intro y hy
 rcases List.mem_append.1 hy with h | h
 ·exact h1 y h
 ·rw [List.mem_singleton.1 h]; exact h2
set_option maxHeartbeats 3200000 in
set_option maxRecDepth 100000 in
theorem lcells_any (l:List CellT) (most:Nat) (v:Value) (w:World) (hd:CellsA w v l) :
  Calls Tryz.prog 23 #[v,.int .i64 (most:Nat)] w (RetB (CellsS l most) w):=by
 have HD:=Lib.hid hd
 obtain ⟨av,cap,rfl,c1,c2⟩:=hd.shape
 clear hd
 by_cases h1:most<l.length
 ·have t1:(most:Int)<l.length:=by omega
  clear h1
  go_enter Tryz.func23,Tryz.ntmps23
  go_wp2
  go_ret
  exact ⟨false,rfl,(fun h => by cases h),rfl⟩
 ·have t1:¬ (most:Int)<l.length:=by omega
  have H1:Hid (l.length≤most):=by show _≤_; omega
  clear h1
  go_enter Tryz.func23,Tryz.ntmps23
  go_wp2
  clear t1
  go_loopw [5] (fun iv wr => ∃ i:Nat,i≤l.length∧iv=.int .i64 (i:Nat)∧Hid (∀ y ∈ l.take i,CellS y)∧Hid (wr=w)) (fun iv _ => l.length - (intOf iv).toNat)
  case atStart => exact ⟨0,Nat.zero_le _,rfl,(by intro y h; cases h),rfl⟩
  case round =>
   obtain ⟨i,hi,rfl,HM,hw⟩:=hrel
   obtain rfl:=hw.out
   by_cases hlt:i<l.length
   ·obtain ⟨g,o,c,ea,hx,hr⟩:=HD.out.at i hlt
    subst ea
    obtain ⟨v1,v2,x0,x1,hco,hva⟩:=hr.ex
    have HX:=Lib.hid hx
    have HVA:=Lib.hid hva
    obtain ⟨q1,kp1,rfl,kl1,kl1'⟩:=hco.shape
    obtain ⟨q2,kp2,rfl,kl2,kl2'⟩:=hva.shape
    have HI1:Hid (i+1≤l.length):=hlt
    have HI2:Hid (l.length - (i+1)<l.length - i):=by show _<_; omega
    have ib0:(0:Int)≤(i:Int):=by omega
    have ib1:(i:Int)<(l.length:Int):=by omega
    clear hr hx hco hva
    by_cases h2:10<c.co.length
    ·have t2:decide ((10:Int)<c.co.length)=true:=decide_eq_true (by omega)
     clear h2
     go_wp2
     go_ret
     exact ⟨false,rfl,(fun h => by cases h),rfl⟩
    ·have t2:decide ((10:Int)<c.co.length)=false:=decide_eq_false (by omega)
     have H2:Hid (c.co.length≤10):=by show _≤_; omega
     clear h2
     by_cases h3:10<c.vals.length
     ·have t3:decide ((10:Int)<c.vals.length)=true:=decide_eq_true (by omega)
      clear h3
      go_wp2
      go_ret
      exact ⟨false,rfl,(fun h => by cases h),rfl⟩
     ·have t3:decide ((10:Int)<c.vals.length)=false:=decide_eq_false (by omega)
      have H3:Hid (c.vals.length≤10):=by show _≤_; omega
      clear h3
      go_wp2
      clear t2 t3
      go_loopw [6] (fun kv wk => ∃ k:Nat,k≤c.vals.length∧kv=.int .i64 (k:Nat)∧Hid (∀ y ∈ c.vals.take k,y.str.length≤40)∧Hid (wk=wr)) (fun kv _ => c.vals.length - (intOf kv).toNat)
      case atStart => exact ⟨0,Nat.zero_le _,rfl,(by intro y h; cases h),rfl⟩
      case round =>
       obtain ⟨k,hk,rfl,HK,hw⟩:=hrel
       obtain rfl:=hw.out
       by_cases hkl:k<c.vals.length
       ·obtain ⟨g2,o2,y,ea,hy,hry⟩:=HVA.out.at k hkl
        subst ea
        have y3:=hry.str
        have HY:=Lib.hid hy
        obtain ⟨kd,nu,de,st⟩:=y
        simp only at y3
        have HJ1:Hid (k+1≤c.vals.length):=hkl
        have HJ2:Hid (c.vals.length - (k+1)<c.vals.length - k):=by show _<_; omega
        have kb0:(0:Int)≤(k:Int):=by omega
        have kb1:(k:Int)<(c.vals.length:Int):=by omega
        have C:=Lib.hid (fun w1 => lshort_any st w1)
        clear hry hy
        by_cases hs:st.length≤40
        ·have HS:=Lib.hid hs
         rw [decide_eq_true hs] at C
         clear hs
         go_wp2_with fail
         refine (C.out _).mono ?_
         rintro e w1 ⟨rfl,rfl⟩
         clear C
         go_wp2
         exact ⟨⟨k+1,HJ1.out,by go_num,strS_snoc HY.out HK.out HS.out,(by first | exact rfl | exact trivial)⟩,HJ2.out⟩
        ·rw [decide_eq_false hs] at C
         clear hs
         go_wp2_with fail
         refine (C.out _).mono ?_
         rintro e w1 ⟨rfl,rfl⟩
         clear C
         go_wp2
         go_ret
         exact ⟨false,rfl,(fun h => by cases h),rfl⟩
       ·obtain rfl:k=c.vals.length:=by omega
        have hm:=HK.out
        rw [List.take_length] at hm
        have HMS:=Lib.hid hm
        clear hm HK
        go_wp2
        exact ⟨⟨i+1,HI1.out,by go_num,cellS_snoc HX.out HM.out ⟨H2.out,H3.out,HMS.out⟩,(by first | exact rfl | exact trivial)⟩,HI2.out⟩
   ·obtain rfl:i=l.length:=by omega
    have hm:=HM.out
    rw [List.take_length] at hm
    have HMD:=Lib.hid hm
    clear hm HM
    go_wp2
    go_ret
    exact ⟨true,rfl,fun _ => ⟨H1.out,HMD.out⟩,rfl⟩
structure FewS (x:ArrT) (most:Nat):Prop where
 schema:SchemaS x.dims x.attrs
 cells:CellsS x.cells most
def RetBB (P:Prop) (w:World) (e:Ending) (w':World):Prop:=∃ b:Bool,e=.returned (.bool b)∧(b=true→P)∧Below w.heap.size w w'
set_option maxHeartbeats 1600000 in
set_option maxRecDepth 100000 in
theorem few_any (x:ArrT) (most:Nat) (vd va vc:Value) (w:World) (hx:ArrR w vd va vc x) :
  Calls Tryz.prog 5 #[.agg #[vd,va,vc],.int .i64 (most:Nat)] w (RetBB (FewS x most) w):=by
 have C1:=Lib.hid (fun w1 (hb:Below w.heap.size w w1) => lschema_any x.dims x.attrs vd va w1 (hx.dims.later DimR.lasts hb) (hx.attrs.later AttrR.lasts hb))
 have C2:=Lib.hid (fun w1 (hb:Below w.heap.size w w1) => lcells_any x.cells most vc w1 (hx.cells.later CellR.lasts hb))
 obtain ⟨p1,cap1,rfl,cl1,cl1'⟩:=hx.dims.shape
 obtain ⟨p2,cap2,rfl,cl2,cl2'⟩:=hx.attrs.shape
 obtain ⟨p3,cap3,rfl,cl3,cl3'⟩:=hx.cells.shape
 clear hx
 go_enter Tryz.func5,Tryz.ntmps5
 go_wp2_with fail
 refine (C1.out _ (below_alloc _ _)).mono ?_
 rintro e w1 ⟨b,rfl,hs,rfl⟩
 have HS:=Lib.hid hs
 clear C1 hs
 cases b with
 | false =>
  go_wp2
  go_ret
  exact ⟨false,rfl,(fun h => by cases h),below_alloc _ _⟩
 | true =>
  have HS2:=Lib.hid (HS.out rfl)
  clear HS
  go_wp2_with fail
  refine (C2.out _ (below_alloc _ _)).mono ?_
  rintro e w1 ⟨b,rfl,hc,rfl⟩
  have HC:=Lib.hid hc
  clear C2 hc
  go_wp2
  go_ret
  exact ⟨b,rfl,(fun h => ⟨HS2.out,HC.out h⟩),below_alloc _ _⟩
end Go.Proofs.YtdbnebhehiiakaaGreatDoor
