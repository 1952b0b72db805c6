/-
  The walk of the law that the parsers of sets agree.
-/
import Derived.Test.YtncpnjnmljobgaaDoorPSetS
import Derived.Test.YtncpnjnmljobgaaDoorMark
import Derived.Test.YtncpnjnmljobgaaDoorList
namespace Go.Proofs.YtncpnjnmljobgaaDoor
set_option maxRecDepth 100000
open Go.RowKit
theorem own_lt {w : World} {B : Nat} {e : TypeId} {A : Option Addr} {n c : Nat} {ts : List Tk} (h : OwnT w B e A n c ts) : ∀ g, (Value.slice A n c).ownBlock = some g → g < w.heap.size := fun g hg => (h.2.lt g hg).2
theorem own_ge {w : World} {B : Nat} {e : TypeId} {A : Option Addr} {n c : Nat} {ts : List Tk} (h : OwnT w B e A n c ts) : ∀ g, (Value.slice A n c).ownBlock = some g → B ≤ g := fun g hg => (h.2.lt g hg).1
set_option maxHeartbeats 4000000 in
theorem w_FnExactParseSet (s : ByteArray) (w : World) (hm : s.size ≤ maxLen) (hE : Env w) : Calls Tryd.prog 4 #[.string s] w (Ret w (.bool true)) := by
  unfold maxLen at hm
  by_cases hn : 1048576 < s.size
  · go_enter Tryd.func4, Tryd.ntmps4
    go_wp2
    go_ret
    exact ⟨rfl, Below.refl _ _⟩
  · have HE := Lib.hid hE
    have CI := Lib.hid (fun W (h : Env W) => c_impl_ParseSet s W h (by omega))
    have CS := Lib.hid (fun W => c_spec_ParseSet s W (by omega))
    clear hE
    go_enter Tryd.func4, Tryd.ntmps4
    go_wp2_with fail
    refine (CS.out _).mono ?_
    rintro r w2 ⟨A2, n2, c2, ts, b, rfl, hb2, hw2, hn5, hp2⟩
    have HB2 := Lib.hid hb2
    have HP2 := Lib.hid hp2
    have HW2 := Lib.hid hw2
    have HWlt := Lib.hid (own_lt hw2)
    clear hb2 hw2 hp2
    go_wp2_with fail
    refine (CI.out _ (HE.out.below HB2.out)).mono ?_
    rintro r w4 ⟨A4, n4, c4, ts', b', rfl, hb4, hg4, _, hp4⟩
    obtain ⟨rfl, rfl⟩ := HP2.out.same hp4
    have HB4 := Lib.hid (below2 HB2.out hb4)
    have HW4 := Lib.hid (HW2.out.below hb4)
    have HG4 := Lib.hid hg4
    have HGge := Lib.hid (own_ge hg4)
    obtain rfl : n2 = n4 := by have := HW4.out.1; have := hg4.1; omega
    clear hb4 hg4 HW2 hp4
    go_wp2_with fail
    refine (c_eqTaskS A4 A2 n2 n2 c4 c2 ts ts _ HG4.out.isTs HW4.out.isTs (by omega) (by omega)).mono ?_
    rintro r w9 ⟨rfl, hb9⟩
    rw [eqsB_eq rfl]
    have HB9 := Lib.hid (below2 HB4.out hb9)
    have HW9 := Lib.hid (HW4.out.below hb9)
    have HG9 := Lib.hid (HG4.out.below hb9)
    clear hb9 HW4 HG4
    cases b
    all_goals
      go_wp2_with fail
      refine (c_markTaskS A4 n2 c4 _ ts 1 _ HG9.out (by omega) (by omega) (by omega)).mono ?_
      rintro r w10 ⟨rfl, hg10, hx10⟩
      have HB10 := Lib.hid (own_below HB9.out (HG9.out.less HB2.out.size) hg10 HB9.out.size)
      have HW10 := Lib.hid (HW9.out.kept_ne hg10 fun g hg e => by have h1 := HWlt.out g hg; have h2 := HGge.out g e; omega)
      have HG10 := Lib.hid hx10
      clear hg10 hx10 HW9 HG9
      go_wp2_with fail
      refine (c_heldTaskS A4 n2 c4 1 _ HG10.out.isTs (by omega) (by omega) (by omega)).mono ?_
      rintro r w' ⟨rfl, rfl⟩
      go_wp2_with fail
      refine (CI.out _ (HE.out.below HB10.out)).mono ?_
      rintro r w12 ⟨A12, n12, c12, ts12, b12, rfl, hb12, ho12, _, hp12⟩
      obtain ⟨rfl, rfl⟩ := HP2.out.same hp12
      have HB12 := Lib.hid (below2 HB10.out hb12)
      have HW12 := Lib.hid (HW10.out.below hb12)
      have HG12 := Lib.hid (HG10.out.below hb12)
      have HO12 := Lib.hid ho12.isTs
      obtain rfl : n2 = n12 := by have := HW12.out.1; have := ho12.1; omega
      clear hb12 ho12 HW10 HG10
      go_wp2_with fail
      refine (c_eqTaskS A12 A2 n2 n2 c12 c2 ts ts _ HO12.out HW12.out.isTs (by omega) (by omega)).mono ?_
      rintro r w13 ⟨rfl, hb13⟩
      rw [eqsB_eq rfl]
      have HB13 := Lib.hid (below2 HB12.out hb13)
      have HG13 := Lib.hid (HG12.out.below hb13)
      clear hb13
      go_wp2_with fail
      refine (c_heldTaskS A4 n2 c4 1 _ HG13.out.isTs (by omega) (by omega) (by omega)).mono ?_
      rintro r w' ⟨rfl, rfl⟩
      go_wp2
      go_ret
      exact ⟨rfl, HB13.out⟩
end Go.Proofs.YtncpnjnmljobgaaDoor
