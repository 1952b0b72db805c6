/-
  The walk of the law that compares the program's FormatSet with the reference's.
-/
import Derived.Test.YtnfflpaipabbmaaDoorSetT
namespace Go.Proofs.YtnfflpaipabbmaaDoor
set_option maxRecDepth 100000
open Go.RowKit
set_option maxHeartbeats 1000000 in
theorem w_FnExactFormatSet (A : Option Addr) (n c : Nat) (ts : List Tk) (w : World) (hm : n ≤ maxLen) (h : IsTs w A n ts) : Calls Tryd.prog 8 #[.slice A n c] w (Ret w (.bool true)) := by
  unfold maxLen at hm
  by_cases hn : 1048576 < n
  · go_enter Tryd.func8, Tryd.ntmps8
    go_wp2_with fail
    refine (c_szTaskS_more _ _ _ _ hn (by omega)).mono ?_
    rintro r w' ⟨rfl, rfl⟩
    go_wp2
    go_ret
    exact ⟨rfl, Below.refl _ _⟩
  · have H := Lib.hid h
    clear h
    go_enter Tryd.func8, Tryd.ntmps8
    go_wp2_with fail
    refine (c_szTaskS_less _ _ _ _ (by omega)).mono ?_
    rintro r w' ⟨rfl, rfl⟩
    go_wp2_with fail
    refine (c_toTaskS _ _ _ ts _ H.out (by omega)).mono ?_
    rintro r w1 ⟨rfl, hb1, ho1⟩
    have HB1 := Lib.hid hb1
    have HO1 := Lib.hid ho1
    clear hb1 ho1
    go_wp2_with fail
    refine (c_spec_FormatSet _ _ _ ts _ HO1.out.isTs (by omega)).mono ?_
    rintro r w2 ⟨rfl, hb2⟩
    have HB2 := Lib.hid (below2 HB1.out hb2)
    clear hb2 HO1 HB1
    go_wp2_with fail
    refine (c_toTaskS _ _ _ ts _ (H.out.below HB2.out) (by omega)).mono ?_
    rintro r w3 ⟨rfl, hb3, ho3⟩
    have HB3 := Lib.hid (below2 HB2.out hb3)
    have HO3 := Lib.hid ho3.isTs
    clear hb3 ho3 HB2
    go_wp2_with fail
    refine (c_impl_FormatSet _ _ _ ts _ HO3.out (by omega)).mono ?_
    rintro r w4 ⟨rfl, hb4⟩
    have HB4 := Lib.hid (below2 HB3.out hb4)
    have HO4 := Lib.hid (HO3.out.below hb4)
    clear hb4 HO3 HB3
    go_wp2_with fail
    refine (c_toTaskS _ _ _ ts _ (H.out.below HB4.out) (by omega)).mono ?_
    rintro r w5 ⟨rfl, hb5, ho5⟩
    have HB5 := Lib.hid (below2 HB4.out hb5)
    have HO6 := Lib.hid (HO4.out.below hb5)
    have HO5 := Lib.hid ho5.isTs
    clear hb5 ho5 HB4 HO4
    go_wp2_with fail
    refine (c_eqTaskS _ _ _ _ _ _ ts ts _ HO6.out HO5.out (by omega) (by omega)).mono ?_
    rintro r w6 ⟨rfl, hb6⟩
    have HB6 := Lib.hid (below2 HB5.out hb6)
    clear hb6
    rw [eqsB_eq rfl]
    go_wp2
    go_ret
    exact ⟨rfl, HB6.out⟩
end Go.Proofs.YtnfflpaipabbmaaDoor
