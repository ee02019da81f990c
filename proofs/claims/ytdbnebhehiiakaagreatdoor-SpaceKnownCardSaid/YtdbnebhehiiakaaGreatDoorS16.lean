/- Lemmas and contracts, each under its own condition: For space.Print: typeWord, the builder's WriteByte. strings.Builder: WriteString and WriteByte keep every block of another type. space.Print, where the numbers are small. -/
import Derived.StillTailTactics
import Derived.Test.YtdbnebhehiiakaaGreatDoorS2
import Derived.Test.YtdbnebhehiiakaaGreatDoorS3
import Derived.Test.YtdbnebhehiiakaaGreatDoorS5
import Derived.Test.YtdbnebhehiiakaaGreatDoorShlf
import Derived.Test.YtdbnebhehiiakaaGreatDoorT0
import Derived.Test.YtdbnebhehiiakaaGreatDoorV2
namespace Go.Proofs.YtdbnebhehiiakaaGreatDoor
open Go.RowKit
def typeW (k:Int):List UInt8:=if k=1 then [98,111,111,108] else if k=2 then [105,110,116] else if k=3 then [114,97,116] else if k=4 then [116,101,120,116] else []
abbrev wordsA:Array Value:=#[.string ⟨#[]⟩,.string ⟨#[98,111,111,108]⟩,.string ⟨#[105,110,116]⟩,.string ⟨#[114,97,116]⟩,.string ⟨#[116,101,120,116]⟩]
theorem word_at0 (w:World):(Instr.index 125 (.agg wordsA) (.int .i64 0)).run Tryz.prog w=.ok (.string ⟨(typeW 0).toArray⟩) w:=by kernel_rfl
theorem word_at1 (w:World):(Instr.index 125 (.agg wordsA) (.int .i64 1)).run Tryz.prog w=.ok (.string ⟨(typeW 1).toArray⟩) w:=by kernel_rfl
theorem word_at2 (w:World):(Instr.index 125 (.agg wordsA) (.int .i64 2)).run Tryz.prog w=.ok (.string ⟨(typeW 2).toArray⟩) w:=by kernel_rfl
theorem word_at3 (w:World):(Instr.index 125 (.agg wordsA) (.int .i64 3)).run Tryz.prog w=.ok (.string ⟨(typeW 3).toArray⟩) w:=by kernel_rfl
theorem word_at4 (w:World):(Instr.index 125 (.agg wordsA) (.int .i64 4)).run Tryz.prog w=.ok (.string ⟨(typeW 4).toArray⟩) w:=by kernel_rfl
set_option maxHeartbeats 2000000 in
set_option maxRecDepth 100000 in
theorem typeWord_any (k:Int) (w:World) (h1:0≤k) (h2:k≤4):Calls Tryz.prog 32 #[.int .i64 k] w (fun e w' => e=.returned (.string ⟨(typeW k).toArray⟩)∧w'=w):=by
 obtain h | h | h | h | h:k=0 ∨ k=1 ∨ k=2 ∨ k=3 ∨ k=4:=by omega
 all_goals
  subst h
  clear h1 h2
  have q0:=word_at0
  have q1:=word_at1
  have q2:=word_at2
  have q3:=word_at3
  have q4:=word_at4
  go_enter Tryz.func32,Tryz.ntmps32
  go_wp2
  go_ret
  exact ⟨rfl,rfl⟩
set_option maxHeartbeats 2000000 in
set_option maxRecDepth 100000 in
theorem bld_byte (B b:Nat) (bs:List Value) (c:Int) (w:World) (h:Lib.IsBuilder TB T8 B b bs w) (hlen:bs.length+1≤140737488355328) (hBw:B≤w.heap.size) :
  Calls Tryz.prog 33 #[.pointer (some ⟨b,0,none⟩),.int .u8 c] w fun e w' => e=.returned .nilIface∧(Lib.BuilderAt TB T8 B b (.pointer (some ⟨b,0,none⟩)) (bs ++ [.int .u8 c]) w'∧Below B w w'):=by
 obtain ⟨i0,hi,hz0,hz1,hz2⟩:=info_parts Tryz.Builder_Extra_155.infoByte
 go_enter Tryz.func33,Tryz.ntmps33
 go_wp2_with fail
 refine (bld_check B b bs _ h).mono ?_
 rintro e w1 ⟨rfl,h1,hb1⟩
 obtain ⟨hB,v,hbk,hown,hne⟩:=h1
 have hlt:b<w1.heap.size:=by
  rcases Nat.lt_or_ge b w1.heap.size with h' | h'
  ·exact h'
  ·simp [Array.getElem?_eq_none h'] at hbk
 have c0:w1.cell? ⟨b,0,none⟩=some (.pointer (some ⟨b,0,none⟩)):=by rw [Lib.cell_of_heap hbk]; rfl
 have c1:w1.cell? ⟨b,1,none⟩=some v:=by rw [Lib.cell_of_heap hbk]; rfl
 go_wp2_with (at_builtin; refine wpList_append_own _ rfl _ _ 70 rfl B T8 i0 (.int .u8 0) 1 1 Tryz.underlying70 hi hz0 hz1 hz2 rfl (by decide) _ _ _ rfl (hown.alloc _) ⟨w1.heap.size,0,none⟩ 1 1 [.int .u8 c] rfl rfl (cell_one_new _ _ _) (by simp [Value.oneCell']) ?c3 ?c4 ?c5 ?_)
 case c3 => unfold maxLen; omega
 case c4 => omega
 case c5 => have:=hb1.size; simp; omega
 intro v' w2 hown' hgrow _
 have hb2:w2.heap[b]? = some (.cells #[.pointer (some ⟨b,0,none⟩),v] TB (0,0)):=by
  rw [hgrow.block b (by simp; omega) (fun e => hne e.symm),Below.heap_alloc _ _ _ hlt]
  exact hbk
 have d0:w2.cell? ⟨b,0,none⟩=some (.pointer (some ⟨b,0,none⟩)):=by rw [Lib.cell_of_heap hb2]; rfl
 have d1:w2.cell? ⟨b,1,none⟩=some v:=by rw [Lib.cell_of_heap hb2]; rfl
 have f1:w2.frozen? ⟨b,1,none⟩=false:=Lib.frozen_of_heap hb2 1
 obtain ⟨ao,n',cap,rfl⟩:∃ ao n' cap,v'=.slice ao n' cap:=by
  rcases hown'.2 with ⟨hv,_⟩ | ⟨g,cap,cur,hv,_⟩
  ·exact ⟨_,_,_,hv⟩
  ·exact ⟨_,_,_,hv⟩
 go_wp2
 go_ret
 refine ⟨rfl,?_,?_⟩
 ·exact Lib.BuilderAt.put (T:=TB) (e:=T8) hB hb2 (bs':=bs ++ [.int .u8 c]) (by simpa using hown') (by decide)
 ·exact ((hb1.trans ((below_alloc w1 _).mono (by have:=hb1.size; omega))).grown hgrow (by have:=hb1.size; simp; omega) (fun k hk => (hown.lt k hk).1)).setCell (p:=⟨b,1,none⟩) hB _
def KeepT (w w':World):Prop:=∀ (g:Nat) (T:TypeId),TagB w g T→T ≠ T8→T ≠ TB→w'.heap[g]? = w.heap[g]?
theorem bld_checkK (B b:Nat) (bs:List Value) (w:World) (h:Lib.IsBuilder TB T8 B b bs w) :
  Calls Tryz.prog 72 #[.pointer (some ⟨b,0,none⟩)] w fun e w' => e=.returned (.tuple #[])∧(Lib.BuilderAt TB T8 B b (.pointer (some ⟨b,0,none⟩)) bs w'∧Below B w w'∧KeepT w w'):=by
 rcases h with h | h
 ·refine (bld_check_fresh b w h.cell0 h.shape h.frozen0).mono ?_
  rintro e w' ⟨rfl,rfl⟩
  refine ⟨rfl,h.used _,(Below.refl _ _).setCell (p:=⟨b,0,none⟩) h.1 _,fun g T ht h8 hT => Below.heap_setCell w ⟨b,0,none⟩ _ g ?_⟩
  obtain ⟨-,v,hbk,-⟩:=h
  exact ht.ne ⟨_,_,hbk⟩ hT
 ·refine (bld_check_used b w h.cell0).mono ?_
  rintro e w' ⟨rfl,rfl⟩
  exact ⟨rfl,h,Below.refl _ _,fun g T ht h8 hT => rfl⟩
set_option maxHeartbeats 2000000 in
set_option maxRecDepth 100000 in
theorem bld_writeK (B b:Nat) (bs:List Value) (s:ByteArray) (w:World) (h:Lib.IsBuilder TB T8 B b bs w) (hlen:bs.length+s.size≤140737488355328) (hBw:B≤w.heap.size) :
  Calls Tryz.prog 31 #[.pointer (some ⟨b,0,none⟩),.string s] w fun e w' => e=.returned (.tuple #[.int .i64 s.size,.nilIface])∧(Lib.BuilderAt TB T8 B b (.pointer (some ⟨b,0,none⟩)) (bs ++ Lib.strCells s) w'∧Below B w w'∧KeepT w w'):=by
 obtain ⟨i0,hi,hz0,hz1,hz2⟩:=info_parts Tryz.Builder_Extra_155.infoByte
 go_enter Tryz.func31,Tryz.ntmps31
 go_wp2_with fail
 refine (bld_checkK B b bs _ h).mono ?_
 rintro e w1 ⟨rfl,h1,hb1,hk1⟩
 obtain ⟨hB,v,hbk,hown,hne⟩:=h1
 have c0:w1.cell? ⟨b,0,none⟩=some (.pointer (some ⟨b,0,none⟩)):=by rw [Lib.cell_of_heap hbk]; rfl
 have c1:w1.cell? ⟨b,1,none⟩=some v:=by rw [Lib.cell_of_heap hbk]; rfl
 go_wp2_with (at_builtin; refine Lib.wpList_append_own_string _ rfl _ _ 70 9 rfl B T8 i0 Tryz.underlying70 Tryz.underlying9 hi hz0 hz1 hz2 _ _ _ rfl hown s rfl ?c3 ?c4 ?c5 ?_)
 case c3 => unfold maxLen; omega
 case c4 => omega
 case c5 => have:=hb1.size; omega
 intro v' w2 hown' hgrow _
 have hlt:b<w1.heap.size:=by
  rcases Nat.lt_or_ge b w1.heap.size with h' | h'
  ·exact h'
  ·simp [Array.getElem?_eq_none h'] at hbk
 have hb2:w2.heap[b]? = some (.cells #[.pointer (some ⟨b,0,none⟩),v] TB (0,0)):=by
  rw [hgrow.block b hlt (fun e => hne e.symm)]
  exact hbk
 have d0:w2.cell? ⟨b,0,none⟩=some (.pointer (some ⟨b,0,none⟩)):=by rw [Lib.cell_of_heap hb2]; rfl
 have d1:w2.cell? ⟨b,1,none⟩=some v:=by rw [Lib.cell_of_heap hb2]; rfl
 have f1:w2.frozen? ⟨b,1,none⟩=false:=Lib.frozen_of_heap hb2 1
 obtain ⟨ao,n',cap,rfl⟩:∃ ao n' cap,v'=.slice ao n' cap:=by
  rcases hown'.2 with ⟨hv,_⟩ | ⟨g,cap,cur,hv,_⟩
  ·exact ⟨_,_,_,hv⟩
  ·exact ⟨_,_,_,hv⟩
 go_wp2
 go_ret2
 refine ⟨rfl,?_,?_,?_⟩
 ·exact Lib.BuilderAt.put (T:=TB) (e:=T8) hB hb2 (bs':=bs ++ Lib.strCells s) (by simpa [Lib.strCells_length] using hown') (by decide)
 ·exact (hb1.grown hgrow (by have:=hb1.size; omega) (fun k hk => (hown.lt k hk).1)).setCell (p:=⟨b,1,none⟩) hB _
 ·intro g T ht h8 hT
  have hg:=hk1 g T ht h8 hT
  have ht1:=ht.kept hg
  have hbt:TagB w1 b TB:=⟨_,_,hbk⟩
  have hgb:g ≠ b:=ht1.ne hbt hT
  refine (Below.heap_setCell w2 ⟨b,1,none⟩ _ g hgb).trans ((hgrow.block g ht1.lt (fun e => ?_)).trans hg)
  exact (ownsRow_tag hown g e.symm).ne ht1 (Ne.symm h8) rfl
set_option maxHeartbeats 2000000 in
set_option maxRecDepth 100000 in
theorem bld_byteK (B b:Nat) (bs:List Value) (c:Int) (w:World) (h:Lib.IsBuilder TB T8 B b bs w) (hlen:bs.length+1≤140737488355328) (hBw:B≤w.heap.size) :
  Calls Tryz.prog 33 #[.pointer (some ⟨b,0,none⟩),.int .u8 c] w fun e w' => e=.returned .nilIface∧(Lib.BuilderAt TB T8 B b (.pointer (some ⟨b,0,none⟩)) (bs ++ [.int .u8 c]) w'∧Below B w w'∧KeepT w w'):=by
 obtain ⟨i0,hi,hz0,hz1,hz2⟩:=info_parts Tryz.Builder_Extra_155.infoByte
 go_enter Tryz.func33,Tryz.ntmps33
 go_wp2_with fail
 refine (bld_checkK B b bs _ h).mono ?_
 rintro e w1 ⟨rfl,h1,hb1,hk1⟩
 obtain ⟨hB,v,hbk,hown,hne⟩:=h1
 have hlt:b<w1.heap.size:=by
  rcases Nat.lt_or_ge b w1.heap.size with h' | h'
  ·exact h'
  ·simp [Array.getElem?_eq_none h'] at hbk
 have c0:w1.cell? ⟨b,0,none⟩=some (.pointer (some ⟨b,0,none⟩)):=by rw [Lib.cell_of_heap hbk]; rfl
 have c1:w1.cell? ⟨b,1,none⟩=some v:=by rw [Lib.cell_of_heap hbk]; rfl
 go_wp2_with (at_builtin; refine wpList_append_own _ rfl _ _ 70 rfl B T8 i0 (.int .u8 0) 1 1 Tryz.underlying70 hi hz0 hz1 hz2 rfl (by decide) _ _ _ rfl (hown.alloc _) ⟨w1.heap.size,0,none⟩ 1 1 [.int .u8 c] rfl rfl (cell_one_new _ _ _) (by simp [Value.oneCell']) ?c3 ?c4 ?c5 ?_)
 case c3 => unfold maxLen; omega
 case c4 => omega
 case c5 => have:=hb1.size; simp; omega
 intro v' w2 hown' hgrow _
 have hb2:w2.heap[b]? = some (.cells #[.pointer (some ⟨b,0,none⟩),v] TB (0,0)):=by
  rw [hgrow.block b (by simp; omega) (fun e => hne e.symm),Below.heap_alloc _ _ _ hlt]
  exact hbk
 have d0:w2.cell? ⟨b,0,none⟩=some (.pointer (some ⟨b,0,none⟩)):=by rw [Lib.cell_of_heap hb2]; rfl
 have d1:w2.cell? ⟨b,1,none⟩=some v:=by rw [Lib.cell_of_heap hb2]; rfl
 have f1:w2.frozen? ⟨b,1,none⟩=false:=Lib.frozen_of_heap hb2 1
 obtain ⟨ao,n',cap,rfl⟩:∃ ao n' cap,v'=.slice ao n' cap:=by
  rcases hown'.2 with ⟨hv,_⟩ | ⟨g,cap,cur,hv,_⟩
  ·exact ⟨_,_,_,hv⟩
  ·exact ⟨_,_,_,hv⟩
 go_wp2
 go_ret
 refine ⟨rfl,?_,?_,?_⟩
 ·exact Lib.BuilderAt.put (T:=TB) (e:=T8) hB hb2 (bs':=bs ++ [.int .u8 c]) (by simpa using hown') (by decide)
 ·exact ((hb1.trans ((below_alloc w1 _).mono (by have:=hb1.size; omega))).grown hgrow (by have:=hb1.size; simp; omega) (fun k hk => (hown.lt k hk).1)).setCell (p:=⟨b,1,none⟩) hB _
 ·intro g T ht h8 hT
  have hg:=hk1 g T ht h8 hT
  have ht1:=ht.kept hg
  have hbt:TagB w1 b TB:=⟨_,_,hbk⟩
  have hgb:g ≠ b:=ht1.ne hbt hT
  refine (Below.heap_setCell w2 ⟨b,1,none⟩ _ g hgb).trans ((hgrow.block g (by have:=ht1.lt; simp; omega) (fun e => ?_)).trans ((Below.heap_alloc _ _ _ ht1.lt).trans hg))
  exact (ownsRow_tag hown g e.symm).ne ht1 (Ne.symm h8) rfl
def itoS (n:Int):List UInt8:=Lib.decDigits n.toNat
theorem itoa_any (n:Int) (w:World) (h0:0≤n) (h1:n<100):Calls Tryz.prog 30 #[.int .i64 n] w (fun e w' => e=.returned (.string ⟨(itoS n).toArray⟩)∧w'=w):=by
 have:=Tryz.strconv_Itoa_small n.toNat (by omega) w
 rwa [show ((n.toNat:Nat):Int)=n from by omega] at this
def hiW (x:DimT):List UInt8:=if x.hi=1073741825 then [42] else itoS x.hi
def dimW (x:DimT):List UInt8:=[100,105,109,32] ++ x.name ++ [32] ++ itoS x.lo ++ [58] ++ hiW x ++ [10]
def attrW (x:AttrT):List UInt8:=[97,116,116,114,32] ++ x.name ++ [32] ++ typeW x.ty ++ [10]
theorem dimsW_take {l:List DimT} {i:Nat} {x:DimT} (h:l[i]? = some x):(l.take (i+1)).flatMap dimW=(l.take i).flatMap dimW ++ dimW x:=by
 rw [take_snoc' h,List.flatMap_append]; simp
theorem attrsW_take {l:List AttrT} {i:Nat} {x:AttrT} (h:l[i]? = some x):(l.take (i+1)).flatMap attrW=(l.take i).flatMap attrW ++ attrW x:=by
 rw [take_snoc' h,List.flatMap_append]; simp
def ldW:Nat→List UInt8
 | 0 => [58,32]
 | _+1 => [44,32]
theorem ldW_len (k:Nat):(ldW k).length=2:=by cases k <;> rfl
def coW (l:List Int):Nat→List UInt8
 | 0 => []
 | j+1 => coW l j ++ (if 0<j then [32] else []) ++ itoS (l.getD j 0)
def valW (x:Va):List UInt8:=if rightV x=true then printV x else []
def vaW (l:List Va):Nat→List UInt8
 | 0 => []
 | j+1 => vaW l j ++ ldW j ++ valW (l.getD j ⟨0,0,0,[]⟩)
def cellW (c:CellT):List UInt8:=coW c.co c.co.length ++ vaW c.vals c.vals.length ++ [10]
theorem coW_succ {l:List Int} {j:Nat} {n:Int} (h:l[j]? = some n):coW l (j+1)=coW l j ++ (if 0<j then [32] else []) ++ itoS n:=by
 rw [coW,List.getD_eq_getElem?_getD,h]; rfl
def prW (x:ArrT):List UInt8:=x.dims.flatMap dimW ++ x.attrs.flatMap attrW ++ x.cells.flatMap cellW
theorem cellsW_take {l:List CellT} {i:Nat} {x:CellT} (h:l[i]? = some x):(l.take (i+1)).flatMap cellW=(l.take i).flatMap cellW ++ cellW x:=by
 rw [take_snoc' h,List.flatMap_append]; simp
theorem isB_later {B b:Nat} {bs:List Value} {w w':World} (h:Lib.IsBuilder TB T8 B b bs w) (hb:Below w.heap.size w w'):Lib.IsBuilder TB T8 B b bs w':=by
 have hk:∀ p,Lib.BuilderAt TB T8 B b p bs w→Lib.BuilderAt TB T8 B b p bs w':=fun p h => by
  have hlt:=h.lt
  obtain ⟨hB,v,hk,ho,hne⟩:=h
  exact ⟨hB,v,(hb.block b hlt).trans hk,ho.kept (row:=none) (grown_of_below hb none) (by cases v.ownBlock <;> simp),hne⟩
 exact h.imp (hk _) (hk _)
theorem keep_cell {w w':World} {g i:Nat} {v:Value} (h2:w.cell? ⟨g,i,none⟩=some v) (h:w'.heap[g]? = w.heap[g]?):w'.cell? ⟨g,i,none⟩=some v :=
 (World.cell?_of_block (a:=⟨g,i,none⟩) h).trans h2
theorem vaW_succ {l:List Va} {k:Nat} {x:Va} (h:l[k]? = some x):vaW l (k+1)=vaW l k ++ ldW k ++ valW x:=by
 rw [vaW,List.getD_eq_getElem?_getD,h]; rfl
set_option maxHeartbeats 16000000 in
set_option maxRecDepth 100000 in
theorem print_small (x:ArrT) (vd va vc:Value) (w:World) (hm:Ml w) (hx:ArrR w vd va vc x) (hs:StrD x.dims) (hsa:StrA x.attrs) (h:checkE x=0)
  (hl1:∀ i,((x.dims.take i).flatMap dimW).length≤1000000)
  (hl2:∀ i,((x.attrs.take i).flatMap attrW).length≤1000000) (han:∀ a ∈ x.attrs,0≤a.ty∧a.ty≤4)
  (hl3:∀ i,((x.cells.take i).flatMap cellW).length≤1000000) (hl4:∀ c ∈ x.cells,(∀ j,j≤c.co.length→(coW c.co j).length≤1000000)∧∀ j,j≤c.vals.length→(vaW c.vals j).length≤1000000)
  (hcn:∀ c ∈ x.cells,∀ n ∈ c.co,0≤n∧n<100)
  (hdn:∀ d ∈ x.dims,0≤d.lo∧d.lo<100∧(d.hi=1073741825 ∨ 0≤d.hi∧d.hi<100)) :
  Calls Tryz.prog 7 #[.agg #[vd,va,vc]] w (fun e w' => e=.returned (.tuple #[strV (prW x),.int .i64 0])∧Below w.heap.size w w'):=by
 have CC:=Lib.hid (fun w1 (hb:Below w.heap.size w w1) => h ▸ checkA_any x vd va vc w1 (hx.later hb) hs hsa)
 have HX:=Lib.hid hx
 have HDN:=Lib.hid hdn
 have HAN:=Lib.hid han
 have HL3:=Lib.hid hl3
 have HL4:=Lib.hid hl4
 have HCN:=Lib.hid hcn
 have HL2:=Lib.hid hl2
 have HM:=Lib.hid hm
 obtain ⟨p1,cap1,rfl,cl1,cl1'⟩:=hx.dims.shape
 obtain ⟨p2,cap2,rfl,cl2,cl2'⟩:=hx.attrs.shape
 obtain ⟨p3,cap3,rfl,cl3,cl3'⟩:=hx.cells.shape
 clear hx hdn hm hs hsa h han hl2 hl3 hl4 hcn
 go_enter Tryz.func7,Tryz.ntmps7
 go_wp2_with fail
 refine (CC.out _ (below_alloc _ _)).mono ?_
 rintro e w1 ⟨rfl,hb⟩
 have HB1:=Lib.hid (((below_alloc _ _).trans (hb.mono (by simp))))
 have HL1:=Lib.hid hl1
 have hc:∀ j,w1.cell? ⟨w.heap.size,j,none⟩=(w.alloc (.cells #[.slice p1 x.dims.length cap1,.slice p2 x.attrs.length cap2,.slice p3 x.cells.length cap3] 26)).cell? ⟨w.heap.size,j,none⟩:=fun j => hb.cell (p:=⟨w.heap.size,j,none⟩) (by simp)
 have b0:w1.cell? ⟨w.heap.size,0,none⟩=some (.slice p1 x.dims.length cap1):=by rw [hc,World.cell?_alloc_at _ _ _ _ rfl]; rfl
 have b1:w1.cell? ⟨w.heap.size,1,none⟩=some (.slice p2 x.attrs.length cap2):=by rw [hc,World.cell?_alloc_at _ _ _ _ rfl]; rfl
 have b2:w1.cell? ⟨w.heap.size,2,none⟩=some (.slice p3 x.cells.length cap3):=by rw [hc,World.cell?_alloc_at _ _ _ _ rfl]; rfl
 have HBB:=Lib.hid (And.intro b0 (And.intro b1 b2))
 have hg1:w.heap.size<w1.heap.size:=World.block_lt_of_cell? _ _ b0
 have hg2:w.heap.size ≠ w1.heap.size:=Nat.ne_of_lt hg1
 clear hb CC hl1 hc
 go_wp2
 go_loopw [25] (fun iv wr => ∃ i:Nat,i≤x.dims.length∧iv=.int .i64 (i:Nat)∧Lib.IsBuilder TB T8 w1.heap.size w1.heap.size (Lib.byteCells ((x.dims.take i).flatMap dimW)) wr∧Below w1.heap.size w1 wr) (fun iv _ => x.dims.length - (intOf iv).toNat)
 case atStart => exact ⟨0,Nat.zero_le _,rfl,Lib.fresh_isBuilder TB T8 w1,below_alloc _ _⟩
 case round =>
  obtain ⟨i,hi,rfl,hB,hbw⟩:=hrel
  have HBI:=Lib.hid hB
  have HBR:=Lib.hid hbw
  have HBW:=Lib.hid (below_keep HB1.out hbw)
  clear hB hbw
  by_cases hlt:i<x.dims.length
  ·have HI1:Hid (i+1≤x.dims.length):=hlt
   have HI2:Hid (x.dims.length - (i+1)<x.dims.length - i):=by show _<_; omega
   obtain ⟨gd,od,d,ea,hd,hr⟩:=Ls.at HX.out.dims i hlt
   subst ea
   obtain ⟨x0,x1,x2⟩:=DimR.lasts _ _ _ _ _ hr HBW.out
   have hdd:=HDN.out d (List.mem_of_getElem? hd)
   have hh1:=hdd.1
   have hh2:=hdd.2.1
   have HH3:=Lib.hid hdd.2.2
   have HTK:=Lib.hid (dimsW_take hd)
   have hgd:gd<wr.heap.size:=World.block_lt_of_cell? _ _ x0
   have hgn:gd ≠ wr.heap.size:=Nat.ne_of_lt hgd
   obtain ⟨nm,xl,xh⟩:=d
   simp only at x0 x1 x2 hh1 hh2
   have ib0:(0:Int)≤(i:Int):=by omega
   have ib1:(i:Int)<(x.dims.length:Int):=by omega
   have hn9:=HL1.out (i+1)
   rw [HTK.out,List.length_append] at hn9
   simp only [dimW,List.length_append] at hn9
   have hn1:nm.length≤1000000:=by omega
   have hn2:(itoS xl).length≤1000000:=by omega
   have CI:=Lib.hid (fun w9 => itoa_any xl w9 hh1 hh2)
   obtain ⟨S1,hS1⟩:∃ S1,S1=itoS xl:=⟨_,rfl⟩
   rw [← hS1] at hn2 CI
   have HS1:=Lib.hid hS1
   clear hr hdd hd hn9 hS1
   by_cases hst:xh=1073741825
   ·subst hst
    go_wp2_with fail
    refine wp_region_still_tail 12 (by kernel_rfl) (by kernel_rfl) ?_
    simp only [List.take_succ_cons,List.take_zero,List.drop_succ_cons,List.drop_zero]
    obtain ⟨W9,hW9⟩:∃ W9,W9=wr.alloc (.cells #[.string ⟨nm.toArray⟩,.int .i64 xl,.int .i64 1073741825] 74):=⟨_,rfl⟩
    have k0:W9.cell? ⟨wr.heap.size,0,none⟩=some (.string ⟨nm.toArray⟩):=by rw [hW9,World.cell?_alloc_at _ _ _ _ rfl]; rfl
    have k1:W9.cell? ⟨wr.heap.size,1,none⟩=some (.int .i64 xl):=by rw [hW9,World.cell?_alloc_at _ _ _ _ rfl]; rfl
    have HW9:Hid (Below wr.heap.size wr W9):=by rw [hW9]; exact below_alloc _ _
    rw [← hW9]
    clear hW9
    have s1:¬ 9223372036854775807<4+nm.length:=by omega
    have s2:¬ 9223372036854775807<4+nm.length+1:=by omega
    have s3:¬ 9223372036854775807<4+nm.length+1+S1.length:=by omega
    have s4:¬ 9223372036854775807<4+nm.length+1+S1.length+1:=by omega
    have s5:¬ 9223372036854775807<4+nm.length+1+S1.length+1+1:=by omega
    have s6:¬ 9223372036854775807<4+nm.length+1+S1.length+1+1+1:=by omega
    change wpStill _ _ W9.drew _ _ _
    repeat still_step
    still_call (CI.out W9.drew)
    repeat still_step
    refine wpStill_nil ?_
    change wpList _ _ _ _ _ W9.drew
    go_wp2_with fail
    refine (bld_write w1.heap.size w1.heap.size _ _ _ (isB_later HBI.out (HW9.out.drew)) ?l1 ?l2).mono ?_
    case l1 => exact Nat.le_trans (Nat.add_le_add (Nat.le_of_eq (Lib.byteCells_length _)) (Nat.le_refl _)) (by
     have h9:=HL1.out i
     generalize ((x.dims.take i).flatMap dimW).length=q9 at h9 ⊢
     rw [← Lib.strCells_length]
     simp [Lib.strCells,ByteArray.data_append]
     omega)
    case l2 => exact Nat.le_trans HBR.out.size HW9.out.size
    rintro e w2 ⟨rfl,h1,hb2⟩
    have HB2:=Lib.hid h1
    have HBR2:Hid (Below w1.heap.size w1 w2):=(HBR.out.trans ((HW9.out.drew).mono HBR.out.size)).trans hb2
    clear h1 hb2 s1 s2 s3 s4 s5 s6 k0 k1 hn1 hn2
    go_wp2
    refine ⟨⟨i+1,HI1.out,by go_num,?_,HBR2.out⟩,HI2.out⟩
    rw [HTK.out,Lib.byteCells_append]
    have e9:Lib.strCells ((⟨#[100,105,109,32]⟩:ByteArray) ++ ⟨nm.toArray⟩ ++ ⟨#[32]⟩ ++ ⟨S1.toArray⟩ ++ ⟨#[58]⟩ ++ ⟨#[42]⟩ ++ ⟨#[10]⟩)=Lib.byteCells (dimW ⟨nm,xl,1073741825⟩):=by
     rw [HS1.out]
     simp [Lib.strCells,Lib.byteCells,dimW,hiW,ByteArray.data_append]
    rw [← e9]
    exact .inr HB2.out
   ·have hh3:=HH3.out.resolve_left hst
    have HST:=Lib.hid hst
    have hstb:(xh != 1073741825)=true:=by rw [bne_iff_ne]; exact hst
    have hn8:=HL1.out (i+1)
    rw [HTK.out,List.length_append] at hn8
    simp only [dimW,hiW,if_neg hst,List.length_append] at hn8
    have hn3:(itoS xh).length≤1000000:=by omega
    have CI2:=Lib.hid (fun w9 => itoa_any xh w9 hh3.1 hh3.2)
    obtain ⟨S2,hS2⟩:∃ S2,S2=itoS xh:=⟨_,rfl⟩
    rw [← hS2] at hn3 CI2
    have HS2:=Lib.hid hS2
    clear hn8 hS2 hh3
    go_wp2_with fail
    refine (CI2.out _).mono ?_
    rintro e w8 ⟨rfl,rfl⟩
    go_wp2_with fail
    refine wp_region_still_tail 12 (by kernel_rfl) (by kernel_rfl) ?_
    simp only [List.take_succ_cons,List.take_zero,List.drop_succ_cons,List.drop_zero]
    obtain ⟨W9,hW9⟩:∃ W9,W9=wr.alloc (.cells #[.string ⟨nm.toArray⟩,.int .i64 xl,.int .i64 xh] 74):=⟨_,rfl⟩
    have k0:W9.cell? ⟨wr.heap.size,0,none⟩=some (.string ⟨nm.toArray⟩):=by rw [hW9,World.cell?_alloc_at _ _ _ _ rfl]; rfl
    have k1:W9.cell? ⟨wr.heap.size,1,none⟩=some (.int .i64 xl):=by rw [hW9,World.cell?_alloc_at _ _ _ _ rfl]; rfl
    have HW9:Hid (Below wr.heap.size wr W9):=by rw [hW9]; exact below_alloc _ _
    rw [← hW9]
    clear hW9
    have s1:¬ 9223372036854775807<4+nm.length:=by omega
    have s2:¬ 9223372036854775807<4+nm.length+1:=by omega
    have s3:¬ 9223372036854775807<4+nm.length+1+S1.length:=by omega
    have s4:¬ 9223372036854775807<4+nm.length+1+S1.length+1:=by omega
    have s5:¬ 9223372036854775807<4+nm.length+1+S1.length+1+S2.length:=by omega
    have s6:¬ 9223372036854775807<4+nm.length+1+S1.length+1+S2.length+1:=by omega
    change wpStill _ _ W9.drew _ _ _
    repeat still_step
    still_call (CI.out W9.drew)
    repeat still_step
    refine wpStill_nil ?_
    change wpList _ _ _ _ _ W9.drew
    go_wp2_with fail
    refine (bld_write w1.heap.size w1.heap.size _ _ _ (isB_later HBI.out (HW9.out.drew)) ?l1 ?l2).mono ?_
    case l1 => exact Nat.le_trans (Nat.add_le_add (Nat.le_of_eq (Lib.byteCells_length _)) (Nat.le_refl _)) (by
     have h9:=HL1.out i
     generalize ((x.dims.take i).flatMap dimW).length=q9 at h9 ⊢
     rw [← Lib.strCells_length]
     simp [Lib.strCells,ByteArray.data_append]
     omega)
    case l2 => exact Nat.le_trans HBR.out.size HW9.out.size
    rintro e w2 ⟨rfl,h1,hb2⟩
    have HB2:=Lib.hid h1
    have HBR2:Hid (Below w1.heap.size w1 w2):=(HBR.out.trans ((HW9.out.drew).mono HBR.out.size)).trans hb2
    clear h1 hb2 s1 s2 s3 s4 s5 s6 k0 k1 hn1 hn2 hn3 hstb
    go_wp2
    refine ⟨⟨i+1,HI1.out,by go_num,?_,HBR2.out⟩,HI2.out⟩
    rw [HTK.out,Lib.byteCells_append]
    have e9:Lib.strCells ((⟨#[100,105,109,32]⟩:ByteArray) ++ ⟨nm.toArray⟩ ++ ⟨#[32]⟩ ++ ⟨S1.toArray⟩ ++ ⟨#[58]⟩ ++ ⟨S2.toArray⟩ ++ ⟨#[10]⟩)=Lib.byteCells (dimW ⟨nm,xl,xh⟩):=by
     rw [HS1.out,HS2.out]
     simp [Lib.strCells,Lib.byteCells,dimW,hiW,HST.out,ByteArray.data_append]
    rw [← e9]
    exact .inr HB2.out
  ·obtain rfl:i=x.dims.length:=by omega
   have HBI':=HBI.out
   rw [List.take_length] at HBI'
   have HBJ:=Lib.hid HBI'
   obtain ⟨T1,hT1⟩:∃ T1,T1=x.dims.flatMap dimW:=⟨_,rfl⟩
   have hT1l:T1.length≤1000000:=by have:=HL1.out x.dims.length; rwa [List.take_length,← hT1] at this
   rw [← hT1] at HBJ
   have HT1:=Lib.hid hT1
   have HT1L:=Lib.hid hT1l
   have b1:=cell_later HBB.out.2.1 HBR.out
   have b2:=cell_later HBB.out.2.2 HBR.out
   obtain ⟨W2,hW2⟩:∃ W2,W2=wr:=⟨_,rfl⟩
   rw [← hW2] at HBJ HBR HBW b1 b2 ⊢
   have HB2C:=Lib.hid b2
   clear HBI' hT1 hT1l hW2 HBI
   go_wp2
   go_loopw [52] (fun iv wr => ∃ i:Nat,i≤x.attrs.length∧iv=.int .i64 (i:Nat)∧Lib.IsBuilder TB T8 w1.heap.size w1.heap.size (Lib.byteCells (T1 ++ (x.attrs.take i).flatMap attrW)) wr∧Below w1.heap.size w1 wr) (fun iv _ => x.attrs.length - (intOf iv).toNat)
   case atStart => exact ⟨0,Nat.zero_le _,rfl,by rw [List.take_zero,List.flatMap_nil,List.append_nil]; exact HBJ.out,HBR.out⟩
   case round =>
    obtain ⟨i,hi,rfl,hB,hbw⟩:=hrel
    have HBI:=Lib.hid hB
    have HBR3:=Lib.hid hbw
    have HBW3:=Lib.hid (below_keep HB1.out hbw)
    clear hB hbw b1 b2
    by_cases hlt:i<x.attrs.length
    ·have HI1:Hid (i+1≤x.attrs.length):=hlt
     have HI2:Hid (x.attrs.length - (i+1)<x.attrs.length - i):=by show _<_; omega
     obtain ⟨gd,od,d,ea,hd,hr⟩:=Ls.at HX.out.attrs i hlt
     subst ea
     obtain ⟨x0,x1⟩:=AttrR.lasts _ _ _ _ _ hr HBW3.out
     have hdd:=HAN.out d (List.mem_of_getElem? hd)
     have HTK:=Lib.hid (attrsW_take hd)
     have hgd:gd<wr.heap.size:=World.block_lt_of_cell? _ _ x0
     have hgn:gd ≠ wr.heap.size:=Nat.ne_of_lt hgd
     obtain ⟨nm,ty⟩:=d
     simp only at x0 x1
     have ib0:(0:Int)≤(i:Int):=by omega
     have ib1:(i:Int)<(x.attrs.length:Int):=by omega
     have hn9:=HL2.out (i+1)
     rw [HTK.out,List.length_append] at hn9
     simp only [attrW,List.length_append] at hn9
     have hn1:nm.length≤1000000:=by omega
     have hn2:(typeW ty).length≤1000000:=by omega
     have CI:=Lib.hid (fun w9 => typeWord_any ty w9 hdd.1 hdd.2)
     obtain ⟨S1,hS1⟩:∃ S1,S1=typeW ty:=⟨_,rfl⟩
     rw [← hS1] at hn2 CI
     have HS1:=Lib.hid hS1
     clear hr hdd hd hn9 hS1
     go_wp2_with fail
     refine wp_region_still_tail 9 (by kernel_rfl) (by kernel_rfl) ?_
     simp only [List.take_succ_cons,List.take_zero,List.drop_succ_cons,List.drop_zero]
     obtain ⟨W9,hW9⟩:∃ W9,W9=wr.alloc (.cells #[.string ⟨nm.toArray⟩,.int .i64 ty] 81):=⟨_,rfl⟩
     have k0:W9.cell? ⟨wr.heap.size,0,none⟩=some (.string ⟨nm.toArray⟩):=by rw [hW9,World.cell?_alloc_at _ _ _ _ rfl]; rfl
     have k1:W9.cell? ⟨wr.heap.size,1,none⟩=some (.int .i64 ty):=by rw [hW9,World.cell?_alloc_at _ _ _ _ rfl]; rfl
     have HW9:Hid (Below wr.heap.size wr W9):=by rw [hW9]; exact below_alloc _ _
     rw [← hW9]
     clear hW9
     have s1:¬ 9223372036854775807<5+nm.length:=by omega
     have s2:¬ 9223372036854775807<5+nm.length+1:=by omega
     have s3:¬ 9223372036854775807<5+nm.length+1+S1.length:=by omega
     have s4:¬ 9223372036854775807<5+nm.length+1+S1.length+1:=by omega
     change wpStill _ _ W9.drew _ _ _
     repeat still_step
     still_call (CI.out W9.drew)
     repeat still_step
     refine wpStill_nil ?_
     change wpList _ _ _ _ _ W9.drew
     go_wp2_with fail
     refine (bld_write w1.heap.size w1.heap.size _ _ _ (isB_later HBI.out (HW9.out.drew)) ?l1 ?l2).mono ?_
     case l1 => exact Nat.le_trans (Nat.add_le_add (Nat.le_of_eq (Lib.byteCells_length _)) (Nat.le_refl _)) (by
      have h9:=HL2.out i
      have h8:T1.length≤1000000:=HT1L.out
      rw [List.length_append]
      generalize ((x.attrs.take i).flatMap attrW).length=q9 at h9 ⊢
      rw [← Lib.strCells_length]
      simp [Lib.strCells,ByteArray.data_append]
      omega)
     case l2 => exact Nat.le_trans HBR3.out.size HW9.out.size
     rintro e w2 ⟨rfl,h1,hb2⟩
     have HB2:=Lib.hid h1
     have HBR2:Hid (Below w1.heap.size w1 w2):=(HBR3.out.trans ((HW9.out.drew).mono HBR3.out.size)).trans hb2
     clear h1 hb2 s1 s2 s3 s4 k0 k1 hn1 hn2
     go_wp2
     refine ⟨⟨i+1,HI1.out,by go_num,?_,HBR2.out⟩,HI2.out⟩
     rw [HTK.out,← List.append_assoc,Lib.byteCells_append]
     have e9:Lib.strCells ((⟨#[97,116,116,114,32]⟩:ByteArray) ++ ⟨nm.toArray⟩ ++ ⟨#[32]⟩ ++ ⟨S1.toArray⟩ ++ ⟨#[10]⟩)=Lib.byteCells (attrW ⟨nm,ty⟩):=by
      rw [HS1.out]
      simp [Lib.strCells,Lib.byteCells,attrW,ByteArray.data_append]
     rw [← e9]
     exact .inr HB2.out
    ·obtain rfl:i=x.attrs.length:=by omega
     have HBI':=HBI.out
     rw [List.take_length] at HBI'
     obtain ⟨T2,hT2⟩:∃ T2,T2=T1 ++ x.attrs.flatMap attrW:=⟨_,rfl⟩
     rw [← hT2] at HBI'
     have HBJ2:=Lib.hid HBI'
     have HT2:=Lib.hid hT2
     have b2:=cell_later HBB.out.2.2 HBR3.out
     obtain ⟨W3,hW3⟩:∃ W3,W3=wr:=⟨_,rfl⟩
     rw [← hW3] at HBJ2 HBR3 HBW3 b2 ⊢
     clear HBI' hT2 hW3 HBI
     go_wp2
     go_loopw [70] (fun iv wr => ∃ i:Nat,i≤x.cells.length∧iv=.int .i64 (i:Nat)∧Lib.IsBuilder TB T8 w1.heap.size w1.heap.size (Lib.byteCells (T2 ++ (x.cells.take i).flatMap cellW)) wr∧Below w1.heap.size w1 wr) (fun iv _ => x.cells.length - (intOf iv).toNat)
     case atStart => exact ⟨0,Nat.zero_le _,rfl,by rw [List.take_zero,List.flatMap_nil,List.append_nil]; exact HBJ2.out,HBR3.out⟩
     case round =>
      obtain ⟨i,hi,rfl,hB,hbw⟩:=hrel
      have HBI:=Lib.hid hB
      have HBR4:=Lib.hid hbw
      have HBW4:=Lib.hid (below_keep HB1.out hbw)
      clear hB hbw b2
      by_cases hlt:i<x.cells.length
      ·have HI1:Hid (i+1≤x.cells.length):=hlt
       have HI2:Hid (x.cells.length - (i+1)<x.cells.length - i):=by show _<_; omega
       obtain ⟨gd,od,d,ea,hd,hr⟩:=Ls.at HX.out.cells i hlt
       subst ea
       obtain ⟨v1,v2,x0,x1,hco,hva⟩:=hr.ex
       have x0:=cell_later x0 HBW4.out
       have x1:=cell_later x1 HBW4.out
       obtain ⟨q1,kp1,rfl,kl1,kl1'⟩:=hco.shape
       obtain ⟨q2,kp2,rfl,kl2,kl2'⟩:=hva.shape
       have HCO:=Lib.hid hco
       have HVA:=Lib.hid hva
       have hgd:gd<wr.heap.size:=World.block_lt_of_cell? _ _ x0
       have hgn:gd ≠ wr.heap.size:=Nat.ne_of_lt hgd
       have ib0:(0:Int)≤(i:Int):=by omega
       have ib1:(i:Int)<(x.cells.length:Int):=by omega
       have hl4:=HL4.out d (List.mem_of_getElem? hd)
       have HCO4:=Lib.hid hl4.1
       have HVA4:=Lib.hid hl4.2
       have HCNd:=Lib.hid (HCN.out d (List.mem_of_getElem? hd))
       have HTK:=Lib.hid (cellsW_take hd)
       obtain ⟨T3,hT3⟩:∃ T3,T3=T2 ++ (x.cells.take i).flatMap cellW:=⟨_,rfl⟩
       have HT3:=Lib.hid hT3
       have hT3l:T3.length≤3000000:=by
        have h1:=HT1L.out
        have h2:=HL2.out x.attrs.length
        have h3:=HL3.out i
        have h4:=HT2.out
        rw [List.take_length] at h2
        rw [hT3,List.length_append,h4,List.length_append]
        omega
       have HT3L:=Lib.hid hT3l
       have hBI:=HBI.out
       rw [← hT3] at hBI
       obtain ⟨W4,hW4⟩:∃ W4,W4=wr.alloc (.cells #[.slice q1 d.co.length kp1,.slice q2 d.vals.length kp2] 62):=⟨_,rfl⟩
       have HW4:Hid (Below wr.heap.size wr W4):=by rw [hW4]; exact below_alloc _ _
       have HTG:Hid (TagB W4 wr.heap.size 62):=⟨_,(0,0),by rw [hW4]; exact World.alloc_heap_new _ _⟩
       have HC41:Hid (W4.cell? ⟨wr.heap.size,1,none⟩=some (.slice q2 d.vals.length kp2)):=by show _=_; rw [hW4,World.cell?_alloc_at _ _ _ _ rfl]; rfl
       have HBI4:=Lib.hid (isB_later hBI HW4.out)
       clear hr hd hco hva hl4 hT3 hT3l hBI
       go_wp2
       rw [← hW4]
       clear hW4 x0 x1
       go_loopw [77] (fun jv wy => ∃ j:Nat,j≤d.co.length∧jv=.int .i64 (j:Nat)∧Lib.IsBuilder TB T8 w1.heap.size w1.heap.size (Lib.byteCells (T3 ++ coW d.co j)) wy∧Below w1.heap.size W4 wy∧wy.heap[wr.heap.size]? = W4.heap[wr.heap.size]?) (fun jv _ => d.co.length - (intOf jv).toNat)
       case atStart => exact ⟨0,Nat.zero_le _,rfl,by rw [coW,List.append_nil]; exact HBI4.out,Below.refl _ _,rfl⟩
       case round =>
        obtain ⟨j,hj,rfl,hB,hbw,hkp⟩:=hrel
        have HBI5:=Lib.hid hB
        have HBR5:=Lib.hid hbw
        have HKP:=Lib.hid hkp
        have HBR45:=Lib.hid ((HBR4.out.trans (HW4.out.mono HBR4.out.size)).trans hbw)
        have HBWy:=Lib.hid (below_keep HB1.out HBR45.out)
        clear hB hbw hkp
        by_cases hjl:j<d.co.length
        ·have HJ1:Hid (j+1≤d.co.length):=hjl
         have HJ2:Hid (d.co.length - (j+1)<d.co.length - j):=by show _<_; omega
         obtain ⟨gc,oc,n,e,hn,hrn⟩:=Ls.at (HCO.out.later IntR.lasts HBWy.out) j hjl
         subst e
         rw [Nat.mul_one] at hrn
         unfold IntR at hrn
         have hnn:=HCNd.out n (List.mem_of_getElem? hn)
         have CI:=Lib.hid (fun w9 => itoa_any n w9 hnn.1 hnn.2)
         have HSU:=Lib.hid (coW_succ hn)
         have hs9:=HCO4.out (j+1) hjl
         rw [HSU.out,List.length_append,List.length_append] at hs9
         have hs8:=HCO4.out j hj
         have HLJ:Hid ((Lib.byteCells (T3 ++ coW d.co j)).length≤4000000):=by
          show _≤_
          rw [Lib.byteCells_length,List.length_append]
          have:=HT3L.out
          omega
         have HIL:Hid ((itoS n).length≤1000000):=by show _≤_; omega
         have jb0:(0:Int)≤(j:Int):=by omega
         have jb1:(j:Int)<(d.co.length:Int):=by omega
         clear hn hnn hs9 hs8
         by_cases h0:j=0
         ·subst h0
          rw [Nat.add_zero] at hrn
          go_wp2_with fail
          refine (CI.out _).mono ?_
          rintro e w8 ⟨rfl,rfl⟩
          go_wp2_with fail
          refine (bld_writeK w1.heap.size w1.heap.size _ _ _ HBI5.out ?l5 HBR45.out.size).mono ?_
          case l5 => exact Nat.le_trans (Nat.add_le_add HLJ.out (Nat.le_refl _)) (by
           have:=HIL.out
           simp [ByteArray.size]
           omega)
          rintro e w2 ⟨rfl,h1,hb2,hk2⟩
          have HB2:=Lib.hid h1
          have HBR6:=Lib.hid (HBR5.out.trans hb2)
          have HKP6:=Lib.hid ((hk2 _ _ (HTG.out.kept HKP.out) (by decide) (by decide)).trans HKP.out)
          clear h1 hb2 hk2
          go_wp2
          refine ⟨⟨1,HJ1.out,by go_num,?_,HBR6.out,HKP6.out⟩,HJ2.out⟩
          rw [HSU.out]
          simp only [Nat.lt_irrefl,if_false,List.append_nil]
          rw [← List.append_assoc,Lib.byteCells_append]
          exact .inr HB2.out
         ·have hjp:(0:Int)<(j:Int):=by omega
          have HJP:Hid (0<j):=by show _<_; omega
          have HTW:=Lib.hid (HTG.out.kept HKP.out)
          have hrW:Hid (∀ w',Below w.heap.size wr w'→True):=fun _ _ => trivial
          clear hrW
          go_wp2_with fail
          refine (bld_byteK w1.heap.size w1.heap.size _ 32 _ HBI5.out ?l5 HBR45.out.size).mono ?_
          case l5 => have:=HLJ.out; omega
          rintro e w2 ⟨rfl,h1,hb2,hk2⟩
          have HB2:=Lib.hid h1
          have HBR6:=Lib.hid (HBR5.out.trans hb2)
          have HBX2:=Lib.hid hb2
          have HKP6:=Lib.hid ((hk2 _ _ HTW.out (by decide) (by decide)).trans HKP.out)
          clear h1 hb2 hk2
          go_wp2_with fail
          refine (CI.out _).mono ?_
          rintro e w8 ⟨rfl,rfl⟩
          go_wp2_with fail
          refine (bld_writeK w1.heap.size w1.heap.size _ _ _ (.inr HB2.out) ?l6 (Nat.le_trans HBR45.out.size HBX2.out.size)).mono ?_
          case l6 => exact Nat.le_trans (Nat.add_le_add (by rw [List.length_append]; exact Nat.add_le_add HLJ.out (Nat.le_refl _)) (Nat.le_refl _)) (by
           have:=HIL.out
           simp [ByteArray.size]
           omega)
          rintro e w3 ⟨rfl,h1,hb2,hk2⟩
          have HB3:=Lib.hid h1
          have HBR7:=Lib.hid (HBR6.out.trans hb2)
          have HKP7:=Lib.hid ((hk2 _ _ (HTG.out.kept HKP6.out) (by decide) (by decide)).trans HKP6.out)
          clear h1 hb2 hk2
          go_wp2
          refine ⟨⟨j+1,HJ1.out,by go_num,?_,HBR7.out,HKP7.out⟩,HJ2.out⟩
          rw [HSU.out,if_pos HJP.out]
          rw [← List.append_assoc,← List.append_assoc,Lib.byteCells_append,Lib.byteCells_append]
          exact .inr HB3.out
        ·have hje:j=d.co.length:=by omega
         subst hje
         have b9:=keep_cell HC41.out HKP.out
         obtain ⟨T4,hT4⟩:∃ T4,T4=T3 ++ coW d.co d.co.length:=⟨_,rfl⟩
         have hBI:=HBI5.out
         rw [← hT4] at hBI
         have hT4l:T4.length≤4000000:=by
          have h1:=HT3L.out
          have h2:=HCO4.out _ (Nat.le_refl _)
          rw [hT4,List.length_append]
          omega
         have HT4:=Lib.hid hT4
         have HT4L:=Lib.hid hT4l
         have HBI6:=Lib.hid hBI
         obtain ⟨W5,hW5⟩:∃ W5,W5=wr:=⟨_,rfl⟩
         rw [← hW5] at HBI6 HBR45 HBWy b9 ⊢
         clear hBI hT4 hT4l hW5 HBI5 HKP
         go_wp2
         go_loopw [14,92] (fun lv kv wz => ∃ k:Nat,k≤d.vals.length∧kv=.int .i64 (k:Nat)∧lv=strV (ldW k)∧Lib.IsBuilder TB T8 w1.heap.size w1.heap.size (Lib.byteCells (T4 ++ vaW d.vals k)) wz∧Below w1.heap.size w1 wz) (fun _ kv _ => d.vals.length - (intOf kv).toNat)
         case atStart => exact ⟨0,Nat.zero_le _,rfl,rfl,by rw [vaW,List.append_nil]; exact HBI6.out,HBR45.out⟩
         case round =>
          obtain ⟨k,hk,rfl,rfl,hB,hbw⟩:=hrel
          have HBI7:=Lib.hid hB
          have HBR7:=Lib.hid hbw
          have HBW7:=Lib.hid (below_keep HB1.out hbw)
          clear hB hbw
          by_cases hkl:k<d.vals.length
          ·have HJ1:Hid (k+1≤d.vals.length):=hkl
           have HJ2:Hid (d.vals.length - (k+1)<d.vals.length - k):=by show _<_; omega
           obtain ⟨gv,ov,x9,e,hn,hrn⟩:=Ls.at (HVA.out.later ValR.lasts HBW7.out) k hkl
           subst e
           obtain ⟨y0,y1,y2,y3⟩:=hrn
           have HSU:=Lib.hid (vaW_succ hn)
           have hs9:=HVA4.out (k+1) hkl
           rw [HSU.out,List.length_append,List.length_append] at hs9
           have hs8:=HVA4.out k hk
           have HLJ:Hid ((Lib.byteCells (T4 ++ vaW d.vals k)).length≤5000000):=by
            show _≤_
            rw [Lib.byteCells_length,List.length_append]
            have:=HT4L.out
            omega
           have hIL:(valW x9).length≤1000000:=by omega
           have CP:=Lib.hid (fun w9 (hb:Below w.heap.size w w9) => print_any x9 w9 (HM.out.later hb))
           obtain ⟨S1,hS1⟩:∃ S1,S1=valW x9:=⟨_,rfl⟩
           have hpE:∃ E,printE x9=.tuple #[.string ⟨S1.toArray⟩,.int .i64 E]:=⟨_,by rw [hS1]; rfl⟩
           obtain ⟨E,hpE⟩:=hpE
           rw [hpE] at CP
           rw [← hS1] at hIL HSU
           have HS1:=Lib.hid hS1
           have kb0:(0:Int)≤(k:Int):=by omega
           have kb1:(k:Int)<(d.vals.length:Int):=by omega
           have hl2:(ldW k).length=2:=ldW_len k
           have s1:¬ 9223372036854775807<(ldW k).length+S1.length:=by omega
           obtain ⟨L1,hL1⟩:∃ L1,L1=ldW k:=⟨_,rfl⟩
           rw [← hL1] at s1 hl2 HSU ⊢
           have hl2':L1.length≤2:=by omega
           obtain ⟨kd,nu,de,st⟩:=x9
           simp only at y0 y1 y2 y3
           clear hn hs9 hs8 hS1 hpE hL1 hl2
           go_wp2_with fail
           refine (CP.out _ (HBW7.out.trans ((below_alloc _ _).mono HBW7.out.size))).mono ?_
           rintro e w8 ⟨rfl,hb⟩
           have HBP:Hid (Below wr.heap.size wr w8):=(below_alloc wr (.cells #[.int .i64 kd,.int .i64 nu,.int .i64 de,.string ⟨st.toArray⟩] 59)).trans (hb.mono (by simp))
           clear hb y0 y1 y2 y3
           go_wp2_with fail
           refine (bld_write w1.heap.size w1.heap.size _ _ _ (isB_later HBI7.out HBP.out) ?l7 (Nat.le_trans HBR7.out.size HBP.out.size)).mono ?_
           case l7 => exact Nat.le_trans (Nat.add_le_add HLJ.out (Nat.le_refl _)) (by
            rw [← Lib.strCells_length]
            simp [Lib.strCells,ByteArray.data_append]
            omega)
           rintro e w2 ⟨rfl,h1,hb2⟩
           have HB2:=Lib.hid h1
           have HBR8:Hid (Below w1.heap.size w1 w2):=(HBR7.out.trans (HBP.out.mono HBR7.out.size)).trans hb2
           clear h1 hb2 s1 hl2' hIL
           go_wp2
           refine ⟨⟨k+1,HJ1.out,by go_num,rfl,?_,HBR8.out⟩,HJ2.out⟩
           rw [HSU.out,← List.append_assoc,← List.append_assoc,List.append_assoc (T4 ++ _),Lib.byteCells_append]
           have e9:Lib.strCells ((⟨L1.toArray⟩:ByteArray) ++ ⟨S1.toArray⟩)=Lib.byteCells (L1 ++ S1):=by
            simp [Lib.strCells,Lib.byteCells,ByteArray.data_append]
           rw [← e9]
           exact .inr HB2.out
          ·have hke:k=d.vals.length:=by omega
           subst hke
           have HLK:Hid ((Lib.byteCells (T4 ++ vaW d.vals d.vals.length)).length+1≤140737488355328):=by
            show _≤_
            have h1:=HVA4.out _ (Nat.le_refl _)
            have h2:=HT4L.out
            rw [Lib.byteCells_length,List.length_append]
            omega
           go_wp2_with fail
           refine (bld_byte w1.heap.size w1.heap.size _ 10 _ HBI7.out HLK.out HBR7.out.size).mono ?_
           rintro e w2 ⟨rfl,h1,hb2⟩
           have HB2:=Lib.hid h1
           have HBR8:=Lib.hid (HBR7.out.trans hb2)
           clear h1 hb2
           go_wp2
           refine ⟨⟨i+1,HI1.out,by go_num,?_,HBR8.out⟩,HI2.out⟩
           rw [HTK.out,cellW,← List.append_assoc,← List.append_assoc,← List.append_assoc,← HT3.out,← HT4.out,Lib.byteCells_append]
           exact .inr HB2.out
      ·have HBI':=HBI.out
       have hii:i=x.cells.length:=by omega
       subst hii
       rw [List.take_length] at HBI'
       have HBZ:=Lib.hid HBI'
       clear HBI'
       go_wp2_with fail
       refine (Tryz.Builder_String_any w1.heap.size w1.heap.size _ _ HBZ.out HBR4.out.size).mono ?_
       rintro e w5 ⟨rfl,hb5⟩
       have HB5:=Lib.hid (HBW4.out.trans (hb5.mono HB1.out.size))
       clear hb5
       go_wp2
       go_ret2
       refine ⟨?_,HB5.out⟩
       rw [HT2.out,HT1.out]
       rfl
end Go.Proofs.YtdbnebhehiiakaaGreatDoor
