/-
  The walk of the law that compares the program's SortDue with the reference's.
-/
import Derived.Test.YtbcionecepdkfaaSortI
import Derived.Test.YtbcionecepdkfaaSortS
import Derived.Test.YtbcionecepdkfaaMark
namespace Go.Proofs.Ytbcionecepdkfaa
open Go.RowKit
theorem own_lt {w : World} {B : Nat} {e : TypeId} {A : Option Addr} {n c : Nat} {ts : List Tk} (h : OwnT w B e A n c ts) : ∀ g, (Value.slice A n c).ownBlock = some g → g < w.heap.size := fun g hg => (h.2.lt g hg).2
theorem own_ge {w : World} {B : Nat} {e : TypeId} {A : Option Addr} {n c : Nat} {ts : List Tk} (h : OwnT w B e A n c ts) : ∀ g, (Value.slice A n c).ownBlock = some g → B ≤ g := fun g hg => (h.2.lt g hg).1
set_option maxHeartbeats 2000000 in
theorem w_FnExactSortDue (A : Option Addr) (n c : Nat) (ts : List Tk) (w : World) (hm : n ≤ maxLen) (h : IsTs w A n ts) : Calls Try.prog 5 #[.slice A n c] w (Ret w (.bool true)) := by
  unfold maxLen at hm
  by_cases hn : 1048576 < n
  · go_enter Try.func5, Try.ntmps5
    go_wp2_with fail
    refine (c_szTaskS_more _ _ _ _ hn (by omega)).mono ?_
    rintro r w' ⟨rfl, rfl⟩
    go_wp2
    go_ret
    exact ⟨rfl, Below.refl _ _⟩
  · have H := Lib.hid h
    have HL := Lib.hid h.1
    clear h
    go_enter Try.func5, Try.ntmps5
    go_wp2_with fail
    refine (c_szTaskS_less _ _ _ _ (by omega)).mono ?_
    rintro r w' ⟨rfl, rfl⟩
    go_wp2_with fail
    refine (c_toTaskS _ _ _ ts _ H.out (by omega)).mono ?_
    rintro r w1 ⟨rfl, hb1, ho1⟩
    have HB1 := Lib.hid hb1
    have HO1 := Lib.hid ho1
    clear hb1 ho1
    go_wp2_with fail
    refine (c_spec_SortDue _ _ _ ts _ HO1.out.isTs (by omega)).mono ?_
    rintro r w2 ⟨A2, n2, c2, rfl, hb2, hw2⟩
    have hn2 : n2 ≤ 1048576 := by
      have h1 := hw2.1
      have h3 := HL.out
      cases hv : svB ts
      · rw [srA_no hv] at h1; simp at h1; omega
      · rw [srA_yes hv, srt_len] at h1; omega
    have HB2 := Lib.hid (below2 HB1.out hb2)
    have HW2 := Lib.hid (hw2.less HB1.out.size)
    have HWlt := Lib.hid (own_lt hw2)
    clear hb2 hw2 HO1
    go_wp2_with fail
    refine (c_toTaskS _ _ _ ts _ (H.out.below HB2.out) (by omega)).mono ?_
    rintro r w3 ⟨rfl, hb3, hx3⟩
    have HB3 := Lib.hid (below2 HB2.out hb3)
    have HW3 := Lib.hid (HW2.out.below hb3)
    have HX3 := Lib.hid hx3
    have hz23 : w2.heap.size < w3.heap.size := own_lt hx3 w2.heap.size rfl
    clear hb3 hx3 HW2
    go_wp2_with fail
    refine (c_impl_SortDue _ n n ts _ HX3.out.isTs HX3.out.addr (by omega)).mono ?_
    rintro r w4 ⟨A4, n4, c4, rfl, hb4, hg4⟩
    have HB4 := Lib.hid (below2 HB3.out hb4)
    have HW4 := Lib.hid (HW3.out.below hb4)
    have HX4 := Lib.hid (HX3.out.below hb4)
    have HG4 := Lib.hid hg4
    have HGge := Lib.hid (own_ge hg4)
    obtain rfl : n2 = n4 := by have := HW4.out.1; have := hg4.1; omega
    clear hb4 hg4 HW3 HX3
    go_wp2_with fail
    refine (c_eqTaskS A4 A2 n2 n2 c4 c2 (srA ts) (srA ts) _ HG4.out.isTs HW4.out.isTs (by omega) (by omega)).mono ?_
    rintro r w5 ⟨rfl, hb5⟩
    rw [eqsB_eq rfl]
    have HB5 := Lib.hid (below2 HB4.out hb5)
    have HW5 := Lib.hid (HW4.out.below hb5)
    have HX5 := Lib.hid (HX4.out.below hb5)
    have HG5 := Lib.hid (HG4.out.below hb5)
    clear hb5 HW4 HX4 HG4
    go_wp2_with fail
    refine (c_toTaskS _ _ _ ts _ (H.out.below HB5.out) (by omega)).mono ?_
    rintro r w6 ⟨rfl, hb6, ho6⟩
    have HB6 := Lib.hid (below2 HB5.out hb6)
    have HW6 := Lib.hid (HW5.out.below hb6)
    have HX6 := Lib.hid (HX5.out.below hb6)
    have HG6 := Lib.hid (HG5.out.below hb6)
    have HT6 := Lib.hid ho6.isTs
    clear hb6 ho6 HW5 HX5 HG5
    go_wp2_with fail
    refine (c_eqTaskS _ _ n n n n ts ts _ HX6.out.isTs HT6.out (by omega) (by omega)).mono ?_
    rintro r w7 ⟨rfl, hb7⟩
    rw [eqsB_eq rfl]
    have HB7 := Lib.hid (below2 HB6.out hb7)
    have HW7 := Lib.hid (HW6.out.below hb7)
    have HX7 := Lib.hid (HX6.out.below hb7)
    have HG7 := Lib.hid (HG6.out.below hb7)
    clear hb7 HW6 HX6 HG6 HT6
    go_wp2_with fail
    refine (c_markTaskS _ n n _ ts 1 _ HX7.out (by omega) (by omega) (by omega)).mono ?_
    rintro r w8 ⟨rfl, hg8, hx8⟩
    have HB8 := Lib.hid (own_below HB7.out (HX7.out.less HB2.out.size) hg8 HB7.out.size)
    have HW8 := Lib.hid (HW7.out.kept_ne hg8 fun g hg e => by have h1 := HWlt.out g hg; have h2 := own_ge HX7.out g e; omega)
    have HG8 := Lib.hid (HG7.out.kept_ne hg8 fun g hg e => by
      have h1 := HGge.out g hg
      have h2 : g = w2.heap.size := by have e' : some w2.heap.size = some g := e; injection e' with e'; exact e'.symm
      omega)
    clear hg8 hx8 HW7 HX7 HG7
    go_wp2_with fail
    refine (c_eqTaskS A4 A2 n2 n2 c4 c2 (srA ts) (srA ts) _ HG8.out.isTs HW8.out.isTs (by omega) (by omega)).mono ?_
    rintro r w9 ⟨rfl, hb9⟩
    rw [eqsB_eq rfl]
    have HB9 := Lib.hid (below2 HB8.out hb9)
    have HW9 := Lib.hid (HW8.out.below hb9)
    have HG9 := Lib.hid (HG8.out.below hb9)
    clear hb9 HW8 HG8
    go_wp2_with fail
    refine (c_markTaskS A4 n2 c4 _ (srA ts) 1 _ HG9.out (by omega) (by omega) (by omega)).mono ?_
    rintro r w10 ⟨rfl, hg10, hx10⟩
    have HB10 := Lib.hid (own_below HB9.out (HG9.out.less HB3.out.size) hg10 HB9.out.size)
    have HW10 := Lib.hid (HW9.out.kept_ne hg10 fun g hg e => by have h1 := HWlt.out g hg; have h2 := HGge.out g e; omega)
    have HG10 := Lib.hid hx10
    clear hg10 hx10 HW9 HG9
    go_wp2_with fail
    refine (c_heldTaskS A4 n2 c4 1 _ HG10.out.isTs (by omega) (by omega) (by omega)).mono ?_
    rintro r w' ⟨rfl, rfl⟩
    go_wp2_with fail
    refine (c_toTaskS _ _ _ ts _ (H.out.below HB10.out) (by omega)).mono ?_
    rintro r w11 ⟨rfl, hb11, ho11⟩
    have HB11 := Lib.hid (below2 HB10.out hb11)
    have HW11 := Lib.hid (HW10.out.below hb11)
    have HG11 := Lib.hid (HG10.out.below hb11)
    have HT11 := Lib.hid ho11.isTs
    have HA11 := Lib.hid ho11.addr
    clear hb11 ho11 HW10 HG10
    go_wp2_with fail
    refine (c_impl_SortDue _ n n ts _ HT11.out HA11.out (by omega)).mono ?_
    rintro r w12 ⟨A12, n12, c12, rfl, hb12, ho12⟩
    have HB12 := Lib.hid (below2 HB11.out hb12)
    have HW12 := Lib.hid (HW11.out.below hb12)
    have HG12 := Lib.hid (HG11.out.below hb12)
    have HO12 := Lib.hid ho12.isTs
    obtain rfl : n2 = n12 := by have := HW12.out.1; have := ho12.1; omega
    clear hb12 ho12 HW11 HG11
    go_wp2_with fail
    refine (c_eqTaskS A12 A2 n2 n2 c12 c2 (srA ts) (srA ts) _ HO12.out HW12.out.isTs (by omega) (by omega)).mono ?_
    rintro r w13 ⟨rfl, hb13⟩
    rw [eqsB_eq rfl]
    have HB13 := Lib.hid (below2 HB12.out hb13)
    have HG13 := Lib.hid (HG12.out.below hb13)
    clear hb13
    go_wp2_with fail
    refine (c_heldTaskS A4 n2 c4 1 _ HG13.out.isTs (by omega) (by omega) (by omega)).mono ?_
    rintro r w' ⟨rfl, rfl⟩
    go_wp2
    go_ret
    exact ⟨rfl, HB13.out⟩
end Go.Proofs.Ytbcionecepdkfaa
