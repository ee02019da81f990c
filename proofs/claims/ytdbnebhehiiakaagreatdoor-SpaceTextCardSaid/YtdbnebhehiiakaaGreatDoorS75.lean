/- Lemmas and contracts, each under its own condition: Strings of arrays: what the library's functions return; space.integer. What the row's list of tables gives: the variables of the library that the parser reads. -/
import Derived.Lib.SmallJoins
import Derived.Lib.AppendIntMem
import Derived.Lib.AtoiErrMem
import Derived.Stop.LaidErr
import Derived.LaidSub
import Derived.MakeChecks
import Derived.Lib.LaidTab
import Derived.Shelf.Vars
import Derived.Test.YtdbnebhehiiakaaGreatDoorRows
import Derived.Test.YtdbnebhehiiakaaGreatDoorS3
import Derived.Test.YtdbnebhehiiakaaGreatDoorS68
import Derived.Test.YtdbnebhehiiakaaGreatDoorShlf
namespace Go.Proofs.YtdbnebhehiiakaaGreatDoor
open Go.RowKit
structure Gl (w:World):Prop where
 ml:Ml w
 es:∃ ev,w.cell? ⟨4,0,none⟩=some ev∧(ev=.nilIface ∨ ∃ te pe,ev=.iface te pe)
 er:∃ ev,w.cell? ⟨5,0,none⟩=some ev∧(ev=.nilIface ∨ ∃ te pe,ev=.iface te pe)
 tab:Lib.TabIs Tryz.prog w "internal/strconv.uint64pow10" .u64 Lib.pow10Tab
theorem Gl.later {w w':World} (h:Gl w) (hb:Below w.heap.size w w'):Gl w':=by
 obtain ⟨e1,h1,k1⟩:=h.es
 obtain ⟨e2,h2,k2⟩:=h.er
 exact ⟨h.ml.later hb,⟨e1,cell_later h1 hb,k1⟩,⟨e2,cell_later h2 hb,k2⟩,Go.Joins.tab_stays (g:=0) (by kernel_rfl) h.tab hb (Nat.le_refl _)⟩
theorem itoaT_any (n:Int) (w:World) (hg:Gl w) (h0 : -9223372036854775808≤n) (h1:n≤9223372036854775807) :
  Calls Tryz.prog 30 #[.int .i64 n] w (RetV' (strV (itS n)) w) :=
 (Tryz.strconv_Itoa n h0 h1 w hg.tab).mono fun e w' ⟨he,k,os,hw⟩ => ⟨by rw [he,itoa_itS],by rw [hw]; exact Lib.below_grow _ _ (Nat.le_refl _) _ _⟩
def RetAt (s:List UInt8) (w:World) (e:Ending) (w':World):Prop:=∃ n er,e=.returned (.tuple #[.int .i64 n,er])∧((er=.nilIface∧Lib.atoiAll s=.ok n) ∨ ((∃ t p,er=.iface t p)∧∀ m,Lib.atoiAll s ≠ .ok m))∧Below w.heap.size w w'
theorem atoiT_any (s:List UInt8) (w:World) (hg:Gl w) (hl:s.length≤20000):Calls Tryz.prog 140 #[strV s] w (RetAt s w):=by
 have hs:(⟨s.toArray⟩:ByteArray).size=s.length:=by simp [ByteArray.size]
 cases h:Lib.atoiAll s with
 | ok v =>
  refine (Tryz.strconv_Atoi_ok ⟨s.toArray⟩ (by omega) v (by simpa using h) w).mono ?_
  rintro e w' ⟨rfl,hw⟩
  refine ⟨v,_,rfl,.inl ⟨rfl,h⟩,?_⟩
  rcases hw with rfl | ⟨t,rfl⟩
  ·exact Below.refl _ _
  ·exact Lib.bytesWorld_below _ _ _
 | «syntax» =>
  obtain ⟨ev,h1,h2⟩:=hg.es
  refine (Tryz.strconv_Atoi_syntax ⟨s.toArray⟩ (by omega) (by simpa using h) ev w h1 h2).mono ?_
  rintro e w' ⟨N,rfl,-,-,hb⟩
  exact ⟨_,_,rfl,.inr ⟨⟨_,_,rfl⟩,fun m => by rw [h]; simp⟩,hb⟩
 | range =>
  obtain ⟨ev,h1,h2⟩:=hg.er
  refine (Tryz.strconv_Atoi_range ⟨s.toArray⟩ (by omega) (by simpa using h) ev w h1 h2).mono ?_
  rintro e w' ⟨N,rfl,-,-,hb⟩
  exact ⟨_,_,rfl,.inr ⟨⟨_,_,rfl⟩,fun m => by rw [h]; simp⟩,hb⟩
theorem cutS_any (s sep:List UInt8) (w:World) (hm:Ml w) (hs:s.length≤20000) :
  Calls Tryz.prog 88 #[strV s,strV sep] w (RetV' (.tuple #[strV (Lib.cut s sep).1,strV (Lib.cut s sep).2.1,.bool (Lib.cut s sep).2.2]) w):=by
 obtain ⟨m,hm⟩:=hm
 refine (Tryz.strings_Cut ⟨s.toArray⟩ ⟨sep.toArray⟩ m w (by simp [ByteArray.size]; omega) hm).mono ?_
 rintro e w' ⟨rfl,n,rfl⟩
 exact ⟨rfl,below_drewN' _ _⟩
def RetIo (s:List UInt8) (w:World) (e:Ending) (w':World):Prop:=∃ n,e=.returned (.tuple #[.int .i64 n,.bool (intO s).isSome])∧(∀ m,intO s=some m→n=m)∧Below w.heap.size w w'
set_option maxHeartbeats 1600000 in
set_option maxRecDepth 100000 in
theorem integer_any (s:List UInt8) (w:World) (hg:Gl w) (hl:s.length≤20000):Calls Tryz.prog 89 #[strV s] w (RetIo s w):=by
 have CA:=Lib.hid (atoiT_any s w hg hl)
 have HG:=Lib.hid hg
 clear hg hl
 go_enter Tryz.func89,Tryz.ntmps89
 go_wp2_with fail
 refine CA.out.mono ?_
 rintro e w1 ⟨n,er,rfl,hc,hb⟩
 have HB:=Lib.hid hb
 clear hb CA
 rcases hc with ⟨rfl,ha⟩ | ⟨⟨t,p,rfl⟩,ha⟩
 ·have hbn:=Lib.atoiAll_bounds ha
  have CI:=Lib.hid (itoaT_any n w1 (HG.out.later HB.out) hbn.1 hbn.2)
  have hio:intO s=if itS n=s then some n else none:=by unfold intO; rw [ha]
  have HIO:=Lib.hid hio
  clear ha hbn hio
  go_wp2_with fail
  refine CI.out.mono ?_
  rintro e w2 ⟨rfl,hb⟩
  have HB2:=Lib.hid (below_keep HB.out hb)
  clear hb CI
  by_cases hs:itS n=s
  ·have HE:Hid (intO s=some n):=by show _=_; rw [HIO.out,if_pos hs]
   subst hs
   clear HIO
   go_wp2
   go_ret2
   exact ⟨n,by rw [HE.out]; rfl,fun m hm => by rw [HE.out] at hm; cases hm; rfl,HB2.out⟩
  ·have HE:Hid (intO s=none):=by show _=_; rw [HIO.out,if_neg hs]
   have hs':(itS n == s)=false:=by rw [beq_eq_false_iff_ne]; exact hs
   clear HIO hs
   go_wp2
   go_ret2
   exact ⟨n,by rw [HE.out]; rfl,fun m hm => (by rw [HE.out] at hm; cases hm),HB2.out⟩
 ·have HE:Hid (intO s=none):=by
   show _=_
   unfold intO
   cases h:Lib.atoiAll s with
   | ok v => exact absurd h (ha v)
   | «syntax» => rfl
   | range => rfl
  clear ha
  go_wp2
  go_ret2
  exact ⟨n,by rw [HE.out]; rfl,fun m hm => (by rw [HE.out] at hm; cases hm),HB.out⟩
theorem laid_one {P:Program} {w:World} {l:List (String × DataW Unit)} (h:laidMetH P l w) (n:String) (d:DataW Unit) (hf:(l.filter fun x => x.1 == n)=[(n,d)]) (hn:d.handleName?.isNone=true):laidMet P [(n,d)] w:=by
 have:=h.filter (fun x => x.1 == n)
 rw [hf,MakeChecks.laidMetH_plain _ _ _ (by simp [hn])] at this
 exact this
theorem star_err : "*" ++ "errors.errorString" = "*errors.errorString":=by decide
theorem row_err (u:TypeId) (h:Tryz.prog.typeName? 3 u=some "*errors.errorString"):u = 271 :=
 typeName_ptr_named (nm:="errors.errorString") (by rw [star_err]; kernel_rfl) (by kernel_rfl) (by decide) u (by rw [star_err]; exact h)
theorem gES:Tryz.prog.globalNamed "strconv.ErrSyntax" = some 4:=by kernel_rfl
theorem gER:Tryz.prog.globalNamed "strconv.ErrRange" = some 5:=by kernel_rfl
theorem err_cell {W:World} {n:String} {g:Nat} {text:List UInt8} (h:laidMet Tryz.prog [(n,.iface "*errors.errorString" (.ptr (.agg [.lit (.string text)])))] W)
  (hg:Tryz.prog.globalNamed n=some g) (ht:(Tryz.prog.globals[g]?).map (·.type)=some 77) :
  ∃ ev,W.cell? ⟨g,0,none⟩=some ev∧(ev=.nilIface ∨ ∃ te pe,ev=.iface te pe):=by
 obtain ⟨a0,s0,hv0,-,-,-⟩:=laid_sentinel h hg ht Tryz.underlying77 row_err Tryz.underlying271 Tryz.underlying273 rfl rfl Tryz.underlying9 (by kernel_rfl) (by kernel_rfl)
 exact ⟨_,by have h0:=World.var?_cell hg hv0 0; simpa using h0,.inr ⟨_,_,rfl⟩⟩
theorem gl_of {W:World} (hS:W.ShapedOpen Tryz.prog) (hL:laidMetH Tryz.prog Rows.spaceTextRow.laid W):Gl W:=by
 refine ⟨Go.Proofs.cell_of_shapedOpen_int (zero:=#[.int .i64 0]) (t:=3) hS (of_decide_eq_true (by kernel_rfl)) (by kernel_rfl) rfl (by kernel_rfl) (by kernel_rfl) Tryz.underlying3,?_,?_,?_⟩
 ·exact err_cell (laid_one hL "strconv.ErrSyntax" Rows.laid_strconv_ErrSyntax (by kernel_rfl) (by kernel_rfl)) gES (by kernel_rfl)
 ·exact err_cell (laid_one hL "strconv.ErrRange" Rows.laid_strconv_ErrRange (by kernel_rfl) (by kernel_rfl)) gER (by kernel_rfl)
 ·have h1:=laid_one hL "internal/strconv.uint64pow10" Rows.laid_internal_strconv_uint64pow10 (by kernel_rfl) (by kernel_rfl)
  exact Lib.tabIs_of_head (g:=0) (t:=228) (e:=153) (n:=20) (zs:=Lib.pow10Tab) (rest:=[]) (by kernel_rfl) (by kernel_rfl) Tryz.underlying228 Tryz.underlying153 (by kernel_rfl) (by kernel_rfl) h1
end Go.Proofs.YtdbnebhehiiakaaGreatDoor
