/-
  The walk of FnAddMore.
-/
import Derived.Test.YtkgaimagkjpfcaaDraw2
import Derived.Test.YtkgaimagkjpfcaaMathB
namespace Go.Proofs.Ytkgaimagkjpfcaa
open Go.RowKit
set_option maxHeartbeats 1000000 in
theorem w_FnAddMore (A : Option Addr) (n c : Nat) (w : World) (hm : n ≤ maxLen) (hcode : IsBytes w A n c) : Calls Try.prog 13 #[.slice A n c] w (Ret w (.bool true)) := by
  unfold maxLen at hm
  by_cases hn : 1048576 < n
  · go_enter Try.func13, Try.ntmps13
    go_wp2
    go_ret
    exact ⟨rfl, Below.refl _ _⟩
  · go_enter Try.func13, Try.ntmps13
    go_wp2_with fail
    refine (c_DrawCompareShares A n c w hcode (by omega)).mono ?_
    rintro r w1 ⟨v, ⟨a, b, c', d, rfl⟩, rfl, hb1⟩
    have F1 := Two.new w1 25 25 a b c' d
    have HB1 := Lib.hid (below2 hb1 (below2 (below_alloc (.cells #[.int .i64 a, .int .i64 b] 25)) (below_alloc (.cells #[.int .i64 c', .int .i64 d] 25))))
    clear hb1
    go_wp2_with fail
    refine (c_impl_CompareShares _ _ _ _ _).mono ?_
    rintro r w2 ⟨rfl, hb2⟩
    have F2 := F1.below hb2
    generalize w1.heap.size = B at *
    obtain ⟨k0, k1, k2, k3, k4, k5⟩ := F2
    have HB2 := Lib.hid (below2 HB1.out hb2)
    clear hb2 F1
    go_wp2_with fail
    refine (c_spec_CompareShares _ _ _ _ _).mono ?_
    rintro r w3 ⟨rfl, hb3⟩
    have F3 := Two.below ⟨k0, k1, k2, k3, k4, k5⟩ hb3
    clear k0 k1 k2 k3 k4 k5
    have F3' := F3.below (below_alloc (.cells #[.int .i64 1, .int .i64 2] 25))
    obtain ⟨k0, k1, k2, k3, k4, k5⟩ := F3
    have HB3 := Lib.hid (below2 HB2.out hb3)
    clear hb3
    go_wp2_with fail
    refine (c_impl_AddShares _ _ _ _ _).mono ?_
    rintro r w4 ⟨rfl, hb4⟩
    obtain ⟨o0, o1, oz⟩ := box2 hb4
    have F4 := F3'.below hb4
    clear k0 k1 k2 k3 k4 k5 F3'
    have F4' := F4.below (below_alloc (.cells #[.int .i64 (adN a b 1 2), .int .i64 (adD a b 1 2)] 25))
    obtain ⟨k0, k1, k2, k3, k4, k5⟩ := F4
    have HB4 := Lib.hid (below2 HB3.out (below2 (below_alloc _) hb4))
    clear hb4
    go_wp2_with fail
    refine (c_impl_AddShares _ _ _ _ _).mono ?_
    rintro r w5 ⟨rfl, hb5⟩
    obtain ⟨t0, t1, tz⟩ := box2 hb5
    have HB5 := Lib.hid (below2 HB4.out (below2 (below_alloc _) hb5))
    clear hb5 k0 k1 k2 k3 k4 k5 F4' o0 o1 oz
    cases hp : adB a b 1 2
    · go_wp2
      go_ret
      exact ⟨rfl, below2 HB5.out (below_alloc _)⟩
    · cases hq : adB c' d 1 2
      · go_wp2
        go_ret
        exact ⟨rfl, below2 HB5.out (below_alloc _)⟩
      · have hmore := Lib.hid (ad_more hp hq)
        clear hp hq
        go_wp2_with fail
        refine (c_impl_CompareShares _ _ _ _ _).mono ?_
        rintro r w6 ⟨rfl, hb6⟩
        rw [hmore.out]
        have HB6 := Lib.hid (below2 HB5.out (below2 (below_alloc _) hb6))
        clear hb6
        go_wp2
        go_ret
        exact ⟨ret_bool (by first | (simp; done) | rfl), HB6.out⟩
end Go.Proofs.Ytkgaimagkjpfcaa
