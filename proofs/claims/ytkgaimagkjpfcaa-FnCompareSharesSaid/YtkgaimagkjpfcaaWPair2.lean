/-
  The walk of FnCompareShares.
-/
import Derived.Test.YtkgaimagkjpfcaaDraw2
namespace Go.Proofs.Ytkgaimagkjpfcaa
open Go.RowKit
set_option maxHeartbeats 1000000 in
theorem w_FnCompareShares (A : Option Addr) (n c : Nat) (w : World) (hm : n ≤ maxLen) (hcode : IsBytes w A n c) : Calls Try.prog 11 #[.slice A n c] w (Ret w (.bool true)) := by
  unfold maxLen at hm
  by_cases hn : 1048576 < n
  · go_enter Try.func11, Try.ntmps11
    go_wp2
    go_ret
    exact ⟨rfl, Below.refl _ _⟩
  · go_enter Try.func11, Try.ntmps11
    go_wp2_with fail
    refine (c_DrawCompareShares A n c w hcode (by omega)).mono ?_
    rintro r w1 ⟨v, ⟨a, b, c', d, rfl⟩, rfl, hb1⟩
    have F1 := Two.new w1 25 25 a b c' d
    have HB1 := Lib.hid (below2 hb1 (below2 (below_alloc (.cells #[.int .i64 a, .int .i64 b] 25)) (below_alloc (.cells #[.int .i64 c', .int .i64 d] 25))))
    clear hb1
    go_wp2_with fail
    refine (c_impl_CompareShares _ _ _ _ _).mono ?_
    rintro r w2 ⟨rfl, hb2⟩
    have F2 := F1.below hb2
    generalize w1.heap.size = B at *
    obtain ⟨k0, k1, k2, k3, k4, k5⟩ := F2
    have HB2 := Lib.hid (below2 HB1.out hb2)
    clear hb2 F1
    go_wp2_with fail
    refine (c_spec_CompareShares _ _ _ _ _).mono ?_
    rintro r w3 ⟨rfl, hb3⟩
    have F3 := Two.below ⟨k0, k1, k2, k3, k4, k5⟩ hb3
    clear k0 k1 k2 k3 k4 k5
    obtain ⟨k0, k1, k2, k3, k4, k5⟩ := F3
    have HB3 := Lib.hid (below2 HB2.out hb3)
    clear hb3
    have hfl := Lib.hid (cmp_flip c' d a b)
    have hN := cmp_bd a b c' d
    go_wp2_with fail
    refine (c_impl_CompareShares _ _ _ _ _).mono ?_
    rintro r w4 ⟨rfl, hb4⟩
    have F4 := Two.below ⟨k0, k1, k2, k3, k4, k5⟩ hb4
    clear k0 k1 k2 k3 k4 k5
    obtain ⟨k0, k1, k2, k3, k4, k5⟩ := F4
    have HB4 := Lib.hid (below2 HB3.out hb4)
    clear hb4
    rw [hfl.out]
    obtain ⟨b1, b2⟩ := hN
    cases h1 : shB a b
    · have e0 : cmpS a b c' d = 0 := cmp_bad (by rw [h1]; rfl)
      rw [e0]
      clear e0 b1 b2 hfl
      go_wp2_with fail
      refine (c_impl_ShareValid _ _ _).mono ?_
      rintro r w5 ⟨rfl, hb5⟩
      have HB5 := Lib.hid (below2 HB4.out hb5)
      clear hb5
      go_wp2
      go_ret
      exact ⟨rfl, HB5.out⟩
    · go_wp2_with fail
      refine (c_impl_ShareValid _ _ _).mono ?_
      rintro r w5 ⟨rfl, hb5⟩
      have F5 := Two.below ⟨k0, k1, k2, k3, k4, k5⟩ hb5
      clear k0 k1 k2 k3 k4 k5
      obtain ⟨k0, k1, k2, k3, k4, k5⟩ := F5
      have HB5 := Lib.hid (below2 HB4.out hb5)
      clear hb5
      go_wp2_with fail
      refine (c_impl_ShareValid _ _ _).mono ?_
      rintro r w6 ⟨rfl, hb6⟩
      have F6 := Two.below ⟨k0, k1, k2, k3, k4, k5⟩ hb6
      clear k0 k1 k2 k3 k4 k5
      obtain ⟨k0, k1, k2, k3, k4, k5⟩ := F6
      have HB6 := Lib.hid (below2 HB5.out hb6)
      clear hb6
      cases h2 : shB c' d
      · have e0 : cmpS a b c' d = 0 := cmp_bad (by rw [h2]; simp)
        rw [e0]
        clear e0 b1 b2 hfl
        go_wp2
        go_ret
        exact ⟨rfl, HB6.out⟩
      · have hz := Lib.hid (cmp_zero h1 h2)
        clear h1 h2 hfl
        generalize cmpS a b c' d = N at *
        by_cases hac : a = c'
        · by_cases hbd : b = d
          · have hN : N = 0 := hz.out.2 ⟨hac, hbd⟩
            subst hac hbd hN
            clear hz
            go_wp2
            go_ret
            exact ⟨ret_bool (by first | (simp; done) | (simp; omega)), HB6.out⟩
          · have hN : (N == 0) = false := by rw [beq_eq_false_iff_ne]; exact fun e => hbd (hz.out.1 e).2
            subst hac
            clear hz
            go_wp2
            go_ret
            exact ⟨ret_bool (by first | (simp; done) | (simp [*]; done)), HB6.out⟩
        · have hN : (N == 0) = false := by rw [beq_eq_false_iff_ne]; exact fun e => hac (hz.out.1 e).1
          clear hz
          go_wp2
          go_ret
          exact ⟨ret_bool (by first | (simp; done) | (simp [*]; done)), HB6.out⟩
end Go.Proofs.Ytkgaimagkjpfcaa
