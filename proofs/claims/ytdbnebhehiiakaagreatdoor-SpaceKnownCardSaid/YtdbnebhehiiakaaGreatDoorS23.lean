/- Lemmas and contracts, each under its own condition: Where a cell lies among others: the reference's place, slices.BinarySearchFunc of space.Get: contracts. space.Get and the reference's: contracts. Copies: slices.Clone of dimensions, attributes, values, integers. -/
import Derived.IntWalk
import Derived.BigQuiet
import Derived.Lib.SliceRun
import Derived.Lib.AppendZeros
import Derived.Test.YtdbnebhehiiakaaGreatDoorS17
import Derived.Test.YtdbnebhehiiakaaGreatDoorS19
import Derived.Test.YtdbnebhehiiakaaGreatDoorS5
import Derived.Test.YtdbnebhehiiakaaGreatDoorS57
import Derived.Test.YtdbnebhehiiakaaGreatDoorS58
namespace Go.Proofs.YtdbnebhehiiakaaGreatDoor
open Go.RowKit
def vcells (x:Va):List Value:=[.int .i64 x.kind,.int .i64 x.num,.int .i64 x.den,.string ⟨x.str.toArray⟩]
theorem cellw_val:Cellw 4 vcells ValR where
 pos:=by decide
 len _:=rfl
 one x u hu:=by
  simp only [vcells,List.mem_cons,List.not_mem_nil,or_false] at hu
  rcases hu with rfl | rfl | rfl | rfl <;> rfl
 rd w g o x h t u hu:=by
  match t,hu with
  | 0,hu => cases hu; exact h.kind
  | 1,hu => cases hu; exact h.num
  | 2,hu => cases hu; exact h.den
  | 3,hu => cases hu; exact h.str
  | n+4,hu => simp [vcells] at hu
 mkR w g o x h:=⟨h 0 _ rfl,h 1 _ rfl,h 2 _ rfl,h 3 _ rfl⟩
theorem infoVal:(Tryz.prog.info? 59).map (fun i => (i.zero,i.size,i.bytes))=some (some (.agg #[.int .i64 0,.int .i64 0,.int .i64 0,.string ⟨#[]⟩]),4,40):=by kernel_rfl
def cellsDim (x:DimT):List Value:=[.string ⟨x.name.toArray⟩,.int .i64 x.lo,.int .i64 x.hi]
theorem cellw_Dim:Cellw 3 cellsDim DimR where
 pos:=by decide
 len _:=rfl
 one x u hu:=by
  simp only [cellsDim,List.mem_cons,List.not_mem_nil,or_false] at hu
  rcases hu with rfl | rfl | rfl <;> rfl
 rd w g o x h t u hu:=by
  match t,hu with
  | 0,hu => cases hu; exact h.name
  | 1,hu => cases hu; exact h.lo
  | 2,hu => cases hu; exact h.hi
  | n+3,hu => simp [cellsDim] at hu
 mkR w g o x h:=⟨h 0 _ rfl,h 1 _ rfl,h 2 _ rfl⟩
theorem infoDimC:(Tryz.prog.info? 74).map (fun i => (i.zero,i.size,i.bytes))=some (some (.agg #[.string ⟨#[]⟩,.int .i64 0,.int .i64 0]),3,32):=by kernel_rfl
def cellsAttr (x:AttrT):List Value:=[.string ⟨x.name.toArray⟩,.int .i64 x.ty]
theorem cellw_Attr:Cellw 2 cellsAttr AttrR where
 pos:=by decide
 len _:=rfl
 one x u hu:=by
  simp only [cellsAttr,List.mem_cons,List.not_mem_nil,or_false] at hu
  rcases hu with rfl | rfl <;> rfl
 rd w g o x h t u hu:=by
  match t,hu with
  | 0,hu => cases hu; exact h.name
  | 1,hu => cases hu; exact h.ty
  | n+2,hu => simp [cellsAttr] at hu
 mkR w g o x h:=⟨h 0 _ rfl,h 1 _ rfl⟩
theorem infoAttrC:(Tryz.prog.info? 81).map (fun i => (i.zero,i.size,i.bytes))=some (some (.agg #[.string ⟨#[]⟩,.int .i64 0]),2,24):=by kernel_rfl
def cellsInt (x:Int):List Value:=[.int .i64 x]
theorem cellw_Int:Cellw 1 cellsInt IntR where
 pos:=by decide
 len _:=rfl
 one x u hu:=by
  simp only [cellsInt,List.mem_cons,List.not_mem_nil,or_false] at hu
  rw [hu]; rfl
 rd w g o x h t u hu:=by
  match t,hu with
  | 0,hu => cases hu; exact h
  | n+1,hu => simp [cellsInt] at hu
 mkR w g o x h:=h 0 _ rfl
theorem infoIntC:(Tryz.prog.info? 3).map (fun i => (i.zero,i.size,i.bytes))=some (some (.int .i64 0),1,8):=by kernel_rfl
end Go.Proofs.YtdbnebhehiiakaaGreatDoor
