/-
  The walk of FnAddShares.
-/
import Derived.Test.YtkgaimagkjpfcaaDraw2
import Derived.Test.YtkgaimagkjpfcaaMathA
namespace Go.Proofs.Ytkgaimagkjpfcaa
open Go.RowKit
set_option maxHeartbeats 1000000 in
theorem w_FnAddShares (A : Option Addr) (n c : Nat) (w : World) (hm : n ≤ maxLen) (hcode : IsBytes w A n c) : Calls Try.prog 12 #[.slice A n c] w (Ret w (.bool true)) := by
  unfold maxLen at hm
  by_cases hn : 1048576 < n
  · go_enter Try.func12, Try.ntmps12
    go_wp2
    go_ret
    exact ⟨rfl, Below.refl _ _⟩
  · go_enter Try.func12, Try.ntmps12
    go_wp2_with fail
    refine (c_DrawAddShares A n c w hcode (by omega)).mono ?_
    rintro r w1 ⟨v, ⟨a, b, c', d, rfl⟩, rfl, hb1⟩
    have F1 := Two.new w1 25 25 a b c' d
    have HB1 := Lib.hid (below2 hb1 (below2 (below_alloc (.cells #[.int .i64 a, .int .i64 b] 25)) (below_alloc (.cells #[.int .i64 c', .int .i64 d] 25))))
    clear hb1
    go_wp2_with fail
    refine (c_impl_AddShares _ _ _ _ _).mono ?_
    rintro r w2 ⟨rfl, hb2⟩
    have F2 := F1.below hb2
    generalize w1.heap.size = B at *
    have HB2 := Lib.hid (below2 HB1.out hb2)
    clear hb2 F1
    have F2' := F2.below (below_alloc (.cells #[.int .i64 (adN a b c' d), .int .i64 (adD a b c' d)] 25))
    obtain ⟨k0, k1, k2, k3, k4, k5⟩ := F2
    go_wp2_with fail
    refine (c_spec_AddShares _ _ _ _ _).mono ?_
    rintro r w3 ⟨rfl, hb3⟩
    obtain ⟨s0, s1, hz⟩ := box2 hb3
    have F3 := F2'.below hb3
    clear k0 k1 k2 k3 k4 k5 F2'
    have HB3 := Lib.hid (below2 HB2.out (below2 (below_alloc _) hb3))
    clear hb3
    generalize w2.heap.size = C at *
    cases hv : adB a b c' d
    · go_wp2
      go_ret
      exact ⟨rfl, below2 HB3.out (below_alloc _)⟩
    · have hsh := ad_sh hv
      obtain ⟨cm1, cm2, cm3⟩ := ad_comm a b c' d
      have l1 := ad_le hv
      have l2 := ad_le (a := c') (b := d) (c := a) (d := b) (by rw [← cm1]; exact hv)
      rw [← cm2, ← cm3] at l2
      have CM := Lib.hid (And.intro (cm1.symm.trans hv) (And.intro cm2.symm cm3.symm))
      clear cm1 cm2 cm3 hv
      have F3' := F3.below (below_alloc (.cells #[.int .i64 (adN a b c' d), .int .i64 (adD a b c' d)] 25))
      have S3 : ∀ w4, Below (w3.alloc (.cells #[.int .i64 (adN a b c' d), .int .i64 (adD a b c' d)] 25)).heap.size (w3.alloc (.cells #[.int .i64 (adN a b c' d), .int .i64 (adD a b c' d)] 25)) w4 → w4.cell? ⟨C, 0, none⟩ = some (.int .i64 (adN a b c' d)) ∧ w4.cell? ⟨C, 1, none⟩ = some (.int .i64 (adD a b c' d)) ∧ C < w4.heap.size := fun w4 h4 => ⟨kept s0 (below2 (below_alloc _) h4) hz, kept s1 (below2 (below_alloc _) h4) hz, Nat.lt_of_lt_of_le hz (below2 (below_alloc _) h4).size⟩
      have HS3 := Lib.hid S3
      clear S3
      obtain ⟨k0, k1, k2, k3, k4, k5⟩ := F3
      go_wp2_with fail
      refine (c_impl_AddShares _ _ _ _ _).mono ?_
      rintro r w4 ⟨rfl, hb4⟩
      rw [CM.out.1, CM.out.2.1, CM.out.2.2]
      obtain ⟨r0, r1, rz⟩ := HS3.out w4 hb4
      have F4 := F3'.below hb4
      have F4' := F4.below (below_alloc (.cells #[.int .i64 (adN a b c' d), .int .i64 (adD a b c' d)] 25))
      have HB4 := Lib.hid (below2 HB3.out (below2 (below_alloc _) hb4))
      clear hb4 k0 k1 k2 k3 k4 k5 F3' s0 s1 hz HS3 F4
      generalize adN a b c' d = N at *
      generalize adD a b c' d = D at *
      go_wp2_with fail
      refine (c_impl_ShareValid _ _ _).mono ?_
      rintro r w5 ⟨rfl, hb5⟩
      obtain ⟨t0, t1, tz⟩ := box2 hb5
      have p0 := kept r0 (below2 (below_alloc _) hb5) rz
      have p1 := kept r1 (below2 (below_alloc _) hb5) rz
      have pz : C < w5.heap.size := Nat.lt_trans rz (lt1 hb5)
      have F5 := F4'.below hb5
      have HB5 := Lib.hid (below2 HB4.out (below2 (below_alloc _) hb5))
      clear hb5 F4' r0 r1 rz
      generalize w4.heap.size = E at *
      obtain ⟨k0, k1, k2, k3, k4, k5⟩ := F5
      go_wp2_with fail
      refine (c_impl_CompareShares _ _ _ _ _).mono ?_
      rintro r w6 ⟨rfl, hb6⟩
      have P0 := kept p0 hb6 pz
      have P1 := kept p1 hb6 pz
      have F6 := Two.below ⟨k0, k1, k2, k3, k4, k5⟩ hb6
      have HB6 := Lib.hid (below2 HB5.out hb6)
      clear hb6 p0 p1 t0 t1 k0 k1 k2 k3 k4 k5
      obtain ⟨k0, k1, k2, k3, k4, k5⟩ := F6
      generalize cmpS a b N D = Q1 at *
      go_wp2_with fail
      refine (c_impl_CompareShares _ _ _ _ _).mono ?_
      rintro r w7 ⟨rfl, hb7⟩
      have HB7 := Lib.hid (below2 HB6.out hb7)
      clear hb7
      generalize cmpS c' d N D = Q2 at *
      go_wp2
      go_ret
      exact ⟨ret_bool (by first | (simp; done) | (simp; omega) | rfl), HB7.out⟩
end Go.Proofs.Ytkgaimagkjpfcaa
