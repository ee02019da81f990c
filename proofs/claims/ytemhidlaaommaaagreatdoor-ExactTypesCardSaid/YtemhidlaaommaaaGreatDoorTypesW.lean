/- ExactTypes: the walk. -/
import Derived.Test.YtemhidlaaommaaaGreatDoorOpen
import Derived.Test.YtemhidlaaommaaaGreatDoorRefT
import Derived.Test.YtemhidlaaommaaaGreatDoorW1
namespace Go.Proofs.YtemhidlaaommaaaGreatDoor
open Go.RowKit

theorem types_any (op : Int) (l : List Int) (v : Value) (w : World) (hm : Ml w) (hv : InS w v l) (_ : l.length ≤ maxLen) :
    Calls Tryz.prog 8 #[.int .i64 op, v] w (RetV (.bool true) w) := by
  have HM := Lib.hid (fun w1 (h : Below w.heap.size w w1) => works_any w1 (hm.later h))
  have CT := Lib.hid (type_any op l v w hv)
  have CR := Lib.hid (fun w1 (h : Below w.heap.size w w1) => rtype_any op l v w1 (by
    rcases hv with h' | h'
    · exact .inl h'
    · exact .inr (h'.later h)))
  obtain ⟨a, cap, rfl, -⟩ := hv.shape
  obtain ⟨n, hn⟩ : ∃ n, n = l.length := ⟨_, rfl⟩
  rw [← hn] at CT CR ⊢
  obtain ⟨t, ec, hte⟩ : ∃ t ec, typeE op l = (t, ec) := ⟨_, _, rfl⟩
  rw [hte] at CT CR
  unfold typeR at CT CR
  clear hm hv hn hte
  have h1 : (t == t) = true := by simp
  have h2 : (ec == ec) = true := by simp
  by_cases h5 : 5 < n
  · have C := Lib.hid (HM.out _ (Below.refl _ _))
    go_enter Tryz.func8, Tryz.ntmps8
    go_wp2_with fail
    refine C.out.mono ?_
    rintro e w1 ⟨rfl, hb⟩
    go_wp2
    go_ret
    exact ⟨rfl, hb⟩
  · go_enter Tryz.func8, Tryz.ntmps8
    go_wp2_with fail
    refine CT.out.mono ?_
    rintro e w1 ⟨rfl, hb⟩
    have HB := Lib.hid hb
    clear hb
    go_wp2_with fail
    refine (CR.out _ HB.out).mono ?_
    rintro e w2 ⟨rfl, kq, rfl⟩
    have HB' := Lib.hid (below_keep HB.out (below_drewN' _ kq))
    have C := Lib.hid (HM.out _ HB'.out)
    go_wp2_with fail
    refine C.out.mono ?_
    rintro e w2 ⟨rfl, hb2⟩
    have HB2 := Lib.hid (below_keep HB'.out hb2)
    go_wp2
    go_ret
    exact ⟨rfl, HB2.out⟩
end Go.Proofs.YtemhidlaaommaaaGreatDoor
