/-
  The walks of the laws on drawn shares.
-/
import Derived.Test.YtfjbpckkbmkhbaaDraw2
namespace Go.Proofs.Ytfjbpckkbmkhbaa
open Go.RowKit
set_option maxHeartbeats 1000000 in
theorem w_FnShareTwice (A : Option Addr) (n c : Nat) (w : World) (hm : n ≤ maxLen) (h : IsBytes w A n c) : Calls Try.prog 8 #[.slice A n c] w (Ret w (.bool true)) := by
  unfold maxLen at hm
  by_cases hn : 1048576 < n
  · go_enter Try.func8, Try.ntmps8
    go_wp2
    go_ret
    exact ⟨rfl, Below.refl _ _⟩
  · go_enter Try.func8, Try.ntmps8
    go_wp2_with fail
    refine (c_DrawMakeShare A n c w h (by omega)).mono ?_
    rintro r w1 ⟨v, ⟨a, b, rfl⟩, rfl, hb1⟩
    have HB1 := Lib.hid hb1
    clear hb1 h
    go_wp2_with fail
    refine (c_impl_MakeShare _ _ _).mono ?_
    rintro r w2 ⟨rfl, hb2⟩
    have HB2 := Lib.hid (below2 HB1.out hb2)
    clear hb2
    go_wp2_with fail
    refine (c_spec_MakeShare _ _ _).mono ?_
    rintro r w3 ⟨rfl, hb3⟩
    obtain ⟨s0, s1, hz⟩ := box2 hb3
    have HB3 := Lib.hid (below2 HB2.out (below2 (below_alloc _) hb3))
    clear hb3
    cases hv : msB a b
    · go_wp2
      go_ret
      exact ⟨rfl, below2 HB3.out (below_alloc _)⟩
    · obtain ⟨e1, e2, e3⟩ := ms_twice hv
      go_wp2_with fail
      refine (c_impl_MakeShare _ _ _).mono ?_
      rintro r w4 ⟨rfl, hb4⟩
      rw [e1, e2, e3]
      clear e1 e2 e3
      have t0 := kept s0 (below2 (below_alloc _) hb4) hz
      have t1 := kept s1 (below2 (below_alloc _) hb4) hz
      have hz4 : w2.heap.size < w4.heap.size := Nat.lt_trans hz (lt1 hb4)
      have HB4 := Lib.hid (below2 HB3.out (below2 (below_alloc _) hb4))
      clear hb4 s0 s1
      go_wp2
      go_ret
      exact ⟨rfl, below2 HB4.out (below_alloc _)⟩
set_option maxHeartbeats 1000000 in
theorem w_FnMakeShare (A : Option Addr) (n c : Nat) (w : World) (hm : n ≤ maxLen) (h : IsBytes w A n c) : Calls Try.prog 9 #[.slice A n c] w (Ret w (.bool true)) := by
  unfold maxLen at hm
  by_cases hn : 1048576 < n
  · go_enter Try.func9, Try.ntmps9
    go_wp2
    go_ret
    exact ⟨rfl, Below.refl _ _⟩
  · go_enter Try.func9, Try.ntmps9
    go_wp2_with fail
    refine (c_DrawMakeShare A n c w h (by omega)).mono ?_
    rintro r w1 ⟨v, ⟨a, b, rfl⟩, rfl, hb1⟩
    have HB1 := Lib.hid hb1
    clear hb1 h
    go_wp2_with fail
    refine (c_impl_MakeShare _ _ _).mono ?_
    rintro r w2 ⟨rfl, hb2⟩
    have HB2 := Lib.hid (below2 HB1.out hb2)
    clear hb2
    go_wp2_with fail
    refine (c_spec_MakeShare _ _ _).mono ?_
    rintro r w3 ⟨rfl, hb3⟩
    obtain ⟨s0, s1, hz⟩ := box2 hb3
    have HB3 := Lib.hid (below2 HB2.out (below2 (below_alloc _) hb3))
    clear hb3
    cases hv : msB a b
    · go_wp2
      go_ret
      exact ⟨rfl, below2 HB3.out (below_alloc _)⟩
    · have hsv := sh_made hv
      obtain ⟨m1, m2, m3, m4, m5⟩ := ms_cross hv
      obtain ⟨a0, a1, b0, b1, z1, z2⟩ := ms_true hv
      clear z1 z2
      have q1 := mul_bd (a := msN a b) (d := b) m4 (by omega) (by omega) b1
      have q2 := mul_bd (a := a) (d := msD a b) a0 a1 (by omega) (by omega)
      have q1a := q1.1
      have q1b := q1.2
      have q2a := q2.1
      have q2b := q2.2
      have M1 := Lib.hid m1
      have hcr : (msN a b * b == a * msD a b) = true := by rw [m1]; simp
      clear m1 q1 q2
      go_wp2_with fail
      refine (c_impl_ShareValid _ _ _).mono ?_
      rintro r w4 ⟨rfl, hb4⟩
      have t0 := kept s0 (below2 (below_alloc _) hb4) hz
      have t1 := kept s1 (below2 (below_alloc _) hb4) hz
      have HB4 := Lib.hid (below2 HB3.out (below2 (below_alloc _) hb4))
      clear hb4 s0 s1
      go_wp2
      go_ret
      exact ⟨rfl, HB4.out⟩
set_option maxHeartbeats 1000000 in
theorem w_FnShareValid (A : Option Addr) (n c : Nat) (w : World) (hm : n ≤ maxLen) (h : IsBytes w A n c) : Calls Try.prog 12 #[.slice A n c] w (Ret w (.bool true)) := by
  unfold maxLen at hm
  by_cases hn : 1048576 < n
  · go_enter Try.func12, Try.ntmps12
    go_wp2
    go_ret
    exact ⟨rfl, Below.refl _ _⟩
  · go_enter Try.func12, Try.ntmps12
    go_wp2_with fail
    refine (c_DrawShareValid A n c w h (by omega)).mono ?_
    rintro r w1 ⟨v, ⟨a, b, rfl⟩, rfl, hb1⟩
    have HB1 := Lib.hid hb1
    clear hb1 h
    go_wp2_with fail
    refine (c_impl_ShareValid _ _ _).mono ?_
    rintro r w2 ⟨rfl, hb2⟩
    obtain ⟨s0, s1, hz⟩ := box2 hb2
    have HB2 := Lib.hid (below2 HB1.out (below2 (below_alloc _) hb2))
    clear hb2
    go_wp2_with fail
    refine (c_spec_ShareValid _ _ _).mono ?_
    rintro r w3 ⟨rfl, hb3⟩
    have t0 := kept s0 hb3 hz
    have t1 := kept s1 hb3 hz
    have hz3 : w1.heap.size < w3.heap.size := Nat.lt_of_lt_of_le hz hb3.size
    have HB3 := Lib.hid (below2 HB2.out hb3)
    clear hb3 s0 s1 hz
    cases hv : shB a b
    · go_wp2_with fail
      refine (c_spec_ShareValid _ _ _).mono ?_
      rintro r w4 ⟨rfl, hb4⟩
      have HB4 := Lib.hid (below2 HB3.out hb4)
      clear hb4
      go_wp2
      go_ret
      exact ⟨rfl, HB4.out⟩
    · have hd := sh_double hv
      have h0 := sh_zero a
      obtain ⟨a0, a1, b0, b1, _, _⟩ := shB_msB hv
      go_wp2_with fail
      refine (c_impl_ShareValid _ _ _).mono ?_
      rintro r w4 ⟨rfl, hb4⟩
      have t0' := kept t0 hb4 hz3
      have HB4 := Lib.hid (below2 HB3.out hb4)
      clear hb4 t0 t1
      go_wp2_with fail
      refine (c_impl_ShareValid _ _ _).mono ?_
      rintro r w5 ⟨rfl, hb5⟩
      have HB5 := Lib.hid (below2 HB4.out hb5)
      clear hb5
      go_wp2
      go_ret
      exact ⟨rfl, HB5.out⟩
end Go.Proofs.Ytfjbpckkbmkhbaa
