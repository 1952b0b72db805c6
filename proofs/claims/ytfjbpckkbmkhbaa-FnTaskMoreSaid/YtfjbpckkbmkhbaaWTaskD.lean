/-
  The walks of the laws on drawn tasks.
-/
import Derived.Test.YtfjbpckkbmkhbaaDraw3
import Derived.Test.YtfjbpckkbmkhbaaTask
namespace Go.Proofs.Ytfjbpckkbmkhbaa
open Go.RowKit
set_option maxHeartbeats 1000000 in
theorem w_FnTaskMore (A : Option Addr) (n c : Nat) (w : World) (hm : n ≤ maxLen) (h : IsBytes w A n c) : Calls Try.prog 11 #[.slice A n c] w (Ret w (.bool true)) := by
  unfold maxLen at hm
  by_cases hn : 1048576 < n
  · go_enter Try.func11, Try.ntmps11
    go_wp2
    go_ret
    exact ⟨rfl, Below.refl _ _⟩
  · go_enter Try.func11, Try.ntmps11
    go_wp2_with fail
    refine (c_DrawTaskValid A n c w h (by omega)).mono ?_
    rintro r w1 ⟨v, ⟨l, h, d, e, cr, rfl⟩, rfl, hb1⟩
    have HB1 := Lib.hid hb1
    clear hb1
    have F1 := Five.new w1 26 (.int .i64 l) (.int .i64 h) (.int .i64 d) (.int .i64 e) (.bool cr)
    go_wp2_with fail
    refine (c_impl_TaskValid _ _ _ _ _ _).mono ?_
    rintro r w2 ⟨rfl, hb2⟩
    have F2 := F1.below hb2
    have HB2 := Lib.hid (below2 HB1.out (below2 (below_alloc _) hb2))
    clear hb2 F1
    obtain ⟨k0, k1, k2, k3, k4, k5⟩ := F2
    go_wp2_with fail
    refine (c_spec_TaskValid _ _ _ _ _ _).mono ?_
    rintro r w3 ⟨rfl, hb3⟩
    have F3 := Five.below ⟨k0, k1, k2, k3, k4, k5⟩ hb3
    have HB3 := Lib.hid (below2 HB2.out hb3)
    clear hb3 k0 k1 k2 k3 k4 k5
    generalize w1.heap.size = B at *
    obtain ⟨k0, k1, k2, k3, k4, k5⟩ := F3
    cases hv : tvB l h d e cr
    · go_wp2_with fail
      refine (c_spec_TaskValid _ _ _ _ _ _).mono ?_
      rintro r w4 ⟨rfl, hb4⟩
      have HB4 := Lib.hid (below2 HB3.out hb4)
      clear hb4
      go_wp2
      go_ret
      exact ⟨rfl, HB4.out⟩
    · obtain ⟨q1, q2, q3, q4, q5, q6⟩ := tvB_true hv
      by_cases h20 : e = 20
      · have hb20 : (e == 20) = true := by rw [h20]; rfl
        clear h20
        go_wp2_with fail
        refine (c_spec_TaskValid _ _ _ _ _ _).mono ?_
        rintro r w4 ⟨rfl, hb4⟩
        have HB4 := Lib.hid (below2 HB3.out hb4)
        clear hb4
        go_wp2
        go_ret
        exact ⟨rfl, HB4.out⟩
      · have hb20 : (e == 20) = false := by rw [beq_eq_false_iff_ne]; exact h20
        have m1 : tvB l h d (e + 1) cr = true := tvB_mk ⟨q1, q2, q3, by omega, by omega, q6⟩
        have m2 : tvB l h d 21 cr = false := decide_eq_false (by omega)
        clear q6
        go_wp2_with fail
        refine (c_impl_TaskValid _ _ _ _ _ _).mono ?_
        rintro r w4 ⟨rfl, hb4⟩
        obtain ⟨hc4, hf4⟩ := bcell hb4
        go_wp2_with fail
        refine (c_impl_TaskValid _ _ _ _ _ _).mono ?_
        rintro r w5 ⟨rfl, hb5⟩
        have HB5 := Lib.hid (below2 HB3.out (below2 (below2 (below_alloc _) (below_alloc _)) (below2 hb4 hb5)))
        clear hb4 hb5 hc4 hf4
        go_wp2
        go_ret
        exact ⟨rfl, HB5.out⟩
set_option maxHeartbeats 1000000 in
theorem w_FnTaskCritical (A : Option Addr) (n c : Nat) (w : World) (hm : n ≤ maxLen) (h : IsBytes w A n c) : Calls Try.prog 10 #[.slice A n c] w (Ret w (.bool true)) := by
  unfold maxLen at hm
  by_cases hn : 1048576 < n
  · go_enter Try.func10, Try.ntmps10
    go_wp2
    go_ret
    exact ⟨rfl, Below.refl _ _⟩
  · go_enter Try.func10, Try.ntmps10
    go_wp2_with fail
    refine (c_DrawTaskValid A n c w h (by omega)).mono ?_
    rintro r w1 ⟨v, ⟨l, h, d, e, cr, rfl⟩, rfl, hb1⟩
    have HB1 := Lib.hid hb1
    clear hb1
    have F1 := Five.new w1 26 (.int .i64 l) (.int .i64 h) (.int .i64 d) (.int .i64 e) (.bool cr)
    go_wp2_with fail
    refine (c_impl_TaskValid _ _ _ _ _ _).mono ?_
    rintro r w2 ⟨rfl, hb2⟩
    have F2 := F1.below hb2
    have HB2 := Lib.hid (below2 HB1.out (below2 (below_alloc _) hb2))
    clear hb2 F1
    obtain ⟨k0, k1, k2, k3, k4, k5⟩ := F2
    go_wp2_with fail
    refine (c_spec_TaskValid _ _ _ _ _ _).mono ?_
    rintro r w3 ⟨rfl, hb3⟩
    have F3 := Five.below ⟨k0, k1, k2, k3, k4, k5⟩ hb3
    have HB3 := Lib.hid (below2 HB2.out hb3)
    clear hb3 k0 k1 k2 k3 k4 k5
    generalize w1.heap.size = B at *
    obtain ⟨k0, k1, k2, k3, k4, k5⟩ := F3
    cases hv : tvB l h d e cr
    · go_wp2_with fail
      refine (c_spec_TaskValid _ _ _ _ _ _).mono ?_
      rintro r w4 ⟨rfl, hb4⟩
      have HB4 := Lib.hid (below2 HB3.out hb4)
      clear hb4
      go_wp2
      go_ret
      exact ⟨rfl, HB4.out⟩
    · obtain ⟨q1, q2, q3, q4, q5, q6⟩ := tvB_true hv
      have m1 : tvB l h d e true = true := tvB_mk ⟨q1, q2, q3, q4, q5, .inl rfl⟩
      have m2 : tvB l h d e false = (l == h) := by
        unfold tvB
        rw [Bool.eq_iff_iff]
        simp
        omega
      clear q6 hv
      have FX := (Five.new w3 26 (.int .i64 l) (.int .i64 h) (.int .i64 d) (.int .i64 e) (.bool true)).below (below_alloc (.cells #[.int .i64 l, .int .i64 h, .int .i64 d, .int .i64 e, .bool false] 26))
      have FY := Five.new (w3.alloc (.cells #[.int .i64 l, .int .i64 h, .int .i64 d, .int .i64 e, .bool true] 26)) 26 (.int .i64 l) (.int .i64 h) (.int .i64 d) (.int .i64 e) (.bool false)
      have FT := (Five.below ⟨k0, k1, k2, k3, k4, k5⟩ (below_alloc (.cells #[.int .i64 l, .int .i64 h, .int .i64 d, .int .i64 e, .bool true] 26))).below (below_alloc (.cells #[.int .i64 l, .int .i64 h, .int .i64 d, .int .i64 e, .bool false] 26))
      have HBW := Lib.hid (below2 HB3.out (below2 (below_alloc (.cells #[.int .i64 l, .int .i64 h, .int .i64 d, .int .i64 e, .bool true] 26)) (below_alloc (.cells #[.int .i64 l, .int .i64 h, .int .i64 d, .int .i64 e, .bool false] 26))))
      rw [World.size_alloc] at FY
      go_upto_region 11 with fail
      clear k0 k1 k2 k3 k4 k5
      generalize ((w3.alloc (.cells #[.int .i64 l, .int .i64 h, .int .i64 d, .int .i64 e, .bool true] 26)).alloc (.cells #[.int .i64 l, .int .i64 h, .int .i64 d, .int .i64 e, .bool false] 26)) = W at *
      generalize w3.heap.size + 1 = Y at *
      generalize w3.heap.size = X at *
      obtain ⟨a0, a1, a2, a3, a4, a5⟩ := FX
      obtain ⟨b0, b1, b2, b3, b4, b5⟩ := FY
      obtain ⟨t0, t1, t2, t3, t4, t5⟩ := FT
      go_region_held3 (fun w' => w'.cell? ⟨X, 0, none⟩ = some (.int .i64 l) ∧ w'.cell? ⟨X, 1, none⟩ = some (.int .i64 h) ∧ w'.cell? ⟨X, 2, none⟩ = some (.int .i64 d) ∧ w'.cell? ⟨X, 3, none⟩ = some (.int .i64 e) ∧ w'.cell? ⟨X, 4, none⟩ = some (.bool true) ∧ w'.cell? ⟨Y, 0, none⟩ = some (.int .i64 l) ∧ w'.cell? ⟨Y, 1, none⟩ = some (.int .i64 h) ∧ w'.cell? ⟨Y, 2, none⟩ = some (.int .i64 d) ∧ w'.cell? ⟨Y, 3, none⟩ = some (.int .i64 e) ∧ w'.cell? ⟨Y, 4, none⟩ = some (.bool false) ∧ w'.cell? ⟨B, 0, none⟩ = some (.int .i64 l) ∧ w'.cell? ⟨B, 1, none⟩ = some (.int .i64 h)) (go_keep)
        (first
        | (go_at_call_of 17 (Value.agg #[Value.int IntKind.i64 l, Value.int IntKind.i64 h, Value.int IntKind.i64 d, Value.int IntKind.i64 e, Value.bool true]); go_must (refine (c_impl_TaskValid _ _ _ _ _ _).mono ?_; rintro r w4 ⟨rfl, hb4'⟩; have hb4 := below_undrew hb4'; clear hb4'; have x0 := kept a0 hb4 a5; have x1 := kept a1 hb4 a5; have x2 := kept a2 hb4 a5; have x3 := kept a3 hb4 a5; have x4 := kept a4 hb4 a5; have y0 := kept b0 hb4 b5; have y1 := kept b1 hb4 b5; have y2 := kept b2 hb4 b5; have y3 := kept b3 hb4 b5; have y4 := kept b4 hb4 b5; have z0 := kept t0 hb4 t5; have z1 := kept t1 hb4 t5))
        | (go_at_call_of 17 (Value.agg #[Value.int IntKind.i64 l, Value.int IntKind.i64 h, Value.int IntKind.i64 d, Value.int IntKind.i64 e, Value.bool false]); go_must (refine (c_impl_TaskValid _ _ _ _ _ _).mono ?_; rintro r w5 ⟨rfl, hb5⟩; have v0 := kept x0 hb5 (Nat.lt_of_lt_of_le a5 hb4.size); have v1 := kept x1 hb5 (Nat.lt_of_lt_of_le a5 hb4.size); have v2 := kept x2 hb5 (Nat.lt_of_lt_of_le a5 hb4.size); have v3 := kept x3 hb5 (Nat.lt_of_lt_of_le a5 hb4.size); have v4 := kept x4 hb5 (Nat.lt_of_lt_of_le a5 hb4.size); have u0 := kept y0 hb5 (Nat.lt_of_lt_of_le b5 hb4.size); have u1 := kept y1 hb5 (Nat.lt_of_lt_of_le b5 hb4.size); have u2 := kept y2 hb5 (Nat.lt_of_lt_of_le b5 hb4.size); have u3 := kept y3 hb5 (Nat.lt_of_lt_of_le b5 hb4.size); have u4 := kept y4 hb5 (Nat.lt_of_lt_of_le b5 hb4.size); have s0 := kept z0 hb5 (Nat.lt_of_lt_of_le t5 hb4.size); have s1 := kept z1 hb5 (Nat.lt_of_lt_of_le t5 hb4.size))))
      all_goals
        have HBZ := Lib.hid (below2 HBW.out (below2 hb4 hb5))
        go_wp2
        go_ret
        exact ⟨ret_bool (by simp), HBZ.out⟩
end Go.Proofs.Ytfjbpckkbmkhbaa
