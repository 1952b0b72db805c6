/-
  The walks of the laws on sums of drawn shares.
-/
import Derived.Test.YtkgaimagkjpfcaaDraw2
import Derived.Test.YtkgaimagkjpfcaaMathA
namespace Go.Proofs.Ytkgaimagkjpfcaa
open Go.RowKit
set_option maxHeartbeats 1000000 in
theorem w_FnShareZero (A : Option Addr) (n c : Nat) (w : World) (hm : n ≤ maxLen) (hcode : IsBytes w A n c) : Calls Try.prog 7 #[.slice A n c] w (Ret w (.bool true)) := by
  unfold maxLen at hm
  by_cases hn : 1048576 < n
  · go_enter Try.func7, Try.ntmps7
    go_wp2
    go_ret
    exact ⟨rfl, Below.refl _ _⟩
  · go_enter Try.func7, Try.ntmps7
    go_wp2_with fail
    refine (c_DrawAddShares A n c w hcode (by omega)).mono ?_
    rintro r w1 ⟨v, ⟨a, b, c', d, rfl⟩, rfl, hb1⟩
    have F1 := Two.new w1 25 25 a b c' d
    have HB1 := Lib.hid (below2 hb1 (below2 (below_alloc (.cells #[.int .i64 a, .int .i64 b] 25)) (below_alloc (.cells #[.int .i64 c', .int .i64 d] 25))))
    clear hb1
    go_wp2_with fail
    refine (c_impl_AddShares _ _ _ _ _).mono ?_
    rintro r w2 ⟨rfl, hb2⟩
    have F2 := F1.below hb2
    generalize w1.heap.size = B at *
    have HB2 := Lib.hid (below2 HB1.out hb2)
    clear hb2 F1
    have F2' := F2.below (below_alloc (.cells #[.int .i64 (adN a b c' d), .int .i64 (adD a b c' d)] 25))
    obtain ⟨k0, k1, k2, k3, k4, k5⟩ := F2
    go_wp2_with fail
    refine (c_spec_AddShares _ _ _ _ _).mono ?_
    rintro r w3 ⟨rfl, hb3⟩
    obtain ⟨s0, s1, hz⟩ := box2 hb3
    have F3 := F2'.below hb3
    clear k0 k1 k2 k3 k4 k5 F2'
    have HB3 := Lib.hid (below2 HB2.out (below2 (below_alloc _) hb3))
    clear hb3
    generalize w2.heap.size = C at *
    cases hv : adB a b c' d
    · go_wp2
      go_ret
      exact ⟨rfl, below2 HB3.out (below_alloc _)⟩
    · obtain ⟨h1, h2, z8, z9⟩ := ad_true hv
      clear z8 z9
      obtain ⟨z1, z2, z3⟩ := ad_zero h1
      obtain ⟨y1, y2, y3⟩ := ms07
      have Z := Lib.hid (And.intro z1 (And.intro z2 z3))
      have Y := Lib.hid (And.intro y1 (And.intro y2 y3))
      clear z1 z2 z3 y1 y2 y3 h1 h2
      have F3' := F3.below (below_alloc (.cells #[.int .i64 (adN a b c' d), .int .i64 (adD a b c' d)] 25))
      obtain ⟨k0, k1, k2, k3, k4, k5⟩ := F3
      go_wp2_with fail
      refine (c_impl_MakeShare _ _ _).mono ?_
      rintro r w4 ⟨rfl, hb4⟩
      rw [Y.out.1, Y.out.2.1, Y.out.2.2]
      have F4 := F3'.below hb4
      have F4' := F4.below (below_alloc (.cells #[.int .i64 0, .int .i64 1] 25))
      have HB4 := Lib.hid (below2 HB3.out (below2 (below_alloc _) hb4))
      clear hb4 k0 k1 k2 k3 k4 k5 F3' s0 s1 hz
      obtain ⟨k0, k1, k2, k3, k4, k5⟩ := F4
      go_wp2_with fail
      refine (c_impl_AddShares _ _ _ _ _).mono ?_
      rintro r w5 ⟨rfl, hb5⟩
      rw [Z.out.1, Z.out.2.1, Z.out.2.2]
      obtain ⟨t0, t1, tz⟩ := box2 hb5
      have F5 := F4'.below hb5
      have HB5 := Lib.hid (below2 HB4.out (below2 (below_alloc _) hb5))
      clear hb5 k0 k1 k2 k3 k4 k5 F4'
      obtain ⟨k0, k1, k2, k3, k4, k5⟩ := F5
      go_wp2
      go_ret
      exact ⟨ret_bool (by first | (simp; done) | rfl), below2 HB5.out (below_alloc _)⟩
end Go.Proofs.Ytkgaimagkjpfcaa
