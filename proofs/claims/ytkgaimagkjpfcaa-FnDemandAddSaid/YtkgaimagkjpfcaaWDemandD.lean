/-
  The walks of the laws on drawn demands.
-/
import Derived.Test.YtkgaimagkjpfcaaDraw3
import Derived.Test.YtkgaimagkjpfcaaDemand
namespace Go.Proofs.Ytkgaimagkjpfcaa
open Go.RowKit
/-- A task, a window and a mode. -/
def DemandV (v : Value) : Prop := ∃ (l h d e : Int) (c : Bool) (x : Int) (hi : Bool), v = .tuple #[.agg #[.int .i64 l, .int .i64 h, .int .i64 d, .int .i64 e, .bool c], .int .i64 x, .bool hi]
set_option maxHeartbeats 1000000 in
theorem c_DrawDemandOf (A : Option Addr) (n c : Nat) (w : World) (h : IsBytes w A n c) (hn : n ≤ 1048576) :
    Calls Try.prog 18 #[.slice A n c] w (GotV w DemandV) := by
  have H := Lib.hid (h.below (below_alloc (.cells #[.int .i64 0, .int .i64 0, .int .i64 0, .int .i64 0, .bool false] 30)))
  clear h
  go_enter Try.func18, Try.ntmps18
  go_wp2_with fail
  refine (c_l11Open A n c _ H.out hn).mono ?_
  rintro r w1 ⟨g, n1, c1, rfl, hg, hn1, hb1, hr1⟩
  have HR1 := Lib.hid hr1
  clear hr1
  go_wp2_with fail
  refine (c_l1Task g A n1 c1 0 _ HR1.out (by omega) (by omega) hn1).mono ?_
  rintro r w2 ⟨v, ⟨l, h, d, e, cr, rfl⟩, rfl, hg2, p2, hp2, hp2', hr2⟩
  have HR2 := Lib.hid hr2
  clear hr2
  go_wp2_with fail
  refine (c_l1Wrong g A n1 c1 p2 _ _ _ _ _ _ HR2.out (by omega) (by omega) hn1).mono ?_
  rintro r w3 ⟨v, ⟨l', h', d', e', cr', rfl⟩, rfl, hg3, p3, hp3, hp3', hr3⟩
  have HR3 := Lib.hid hr3
  clear hr3
  go_wp2_with fail
  refine (c_num [10, 1, 20, 0, 7, 100, -1, 1000001] anyI (all_any _) g _ A n1 c1 p3 _ _ (by simp) HR3.out (by omega) (by omega) hn1 (by simp) (by simp)).mono ?_
  rintro r w4 ⟨x, _, rfl, hg4, p4, hp4, hp4', hr4⟩
  have HR4 := Lib.hid hr4
  clear hr4
  go_wp2_with fail
  refine (c_pick g A n1 c1 p4 2 _ HR4.out (by omega) (by omega) hn1 (by omega)).mono ?_
  rintro r w5 ⟨y, _, rfl, hg5, p5, hp5, hp5', hr5⟩
  clear hr5
  simp only [World.size_alloc] at hg
  have HB := Lib.hid (below_src hb1 (by simp; exact hg) (grown_trans hg2 (grown_trans hg3 (grown_trans hg4 hg5))))
  clear hb1 hg2 hg3 hg4 hg5
  obtain ⟨hc1, hf1⟩ := bcell HB.out
  have hz1 := lt1 HB.out
  have hB := below2 (below_alloc _) HB.out
  go_wp2
  refine bodyPost_ret (v := .tuple #[.agg #[.int .i64 l', .int .i64 h', .int .i64 d', .int .i64 e', .bool cr'], .int .i64 x, .bool (y == 0)]) (by simp [results, Try.results18, go_sem, hc1]) rfl ⟨_, ⟨_, _, _, _, _, _, _, rfl⟩, rfl, ?_⟩
  go_grown
set_option maxHeartbeats 1000000 in
theorem w_FnDemandAdd (A : Option Addr) (n c : Nat) (w : World) (hm : n ≤ maxLen) (hcode : IsBytes w A n c) : Calls Try.prog 4 #[.slice A n c] w (Ret w (.bool true)) := by
  unfold maxLen at hm
  by_cases hn : 1048576 < n
  · go_enter Try.func4, Try.ntmps4
    go_wp2
    go_ret
    exact ⟨rfl, Below.refl _ _⟩
  · go_enter Try.func4, Try.ntmps4
    go_wp2_with fail
    refine (c_DrawDemandOf A n c w hcode (by omega)).mono ?_
    rintro r w1 ⟨v, ⟨l, h, d, e, cr, x, hi, rfl⟩, rfl, hb1⟩
    have HB1 := Lib.hid hb1
    clear hb1
    have F1 := Five.new w1 30 (.int .i64 l) (.int .i64 h) (.int .i64 d) (.int .i64 e) (.bool cr)
    go_wp2_with fail
    refine (c_impl_DemandOf _ _ _ _ _ _ _ _).mono ?_
    rintro r w2 ⟨rfl, hb2⟩
    have F2 := F1.below hb2
    have HB2 := Lib.hid (below2 HB1.out (below2 (below_alloc _) hb2))
    clear hb2 F1
    obtain ⟨k0, k1, k2, k3, k4, k5⟩ := F2
    go_wp2_with fail
    refine (c_spec_DemandOf _ _ _ _ _ _ _ _).mono ?_
    rintro r w3 ⟨rfl, hb3⟩
    have F3 := Five.below ⟨k0, k1, k2, k3, k4, k5⟩ hb3
    have HB3 := Lib.hid (below2 HB2.out hb3)
    clear hb3 k0 k1 k2 k3 k4 k5
    generalize w1.heap.size = B at *
    obtain ⟨k0, k1, k2, k3, k4, k5⟩ := F3
    rcases do_ways l h d e cr x hi with ⟨_, e1, e2⟩ | ⟨_, _, e1, e2⟩ | ⟨_, _, _, e1, e2⟩ | ⟨ht, hx0, hx1, e1, e2⟩
    · go_wp2
      go_ret
      exact ⟨rfl, HB3.out⟩
    · go_wp2
      go_ret
      exact ⟨rfl, HB3.out⟩
    · go_wp2
      go_ret
      exact ⟨rfl, HB3.out⟩
    · obtain ⟨q1, q2, q3, q4, q5, q6⟩ := tvB_true ht
      clear q6
      rw [e1, e2]
      clear e1 e2
      have d0 := do_true ht (x := x / 2) (by omega) (by omega) hi
      have d1 := do_true ht (x := x - x / 2) (by omega) (by omega) hi
      have d2 := dmd_add (u := x / 2) (v := x - x / 2) hi q1 q2 (show 1 ≤ e by omega) q5
      rw [show x / 2 + (x - x / 2) = x by omega] at d2
      have b0 := dmd_bd hi q1 q2 (by omega) (show 1 ≤ e by omega) q5 (show 0 ≤ x / 2 by omega) (by omega)
      have b1 := dmd_bd hi q1 q2 (by omega) (show 1 ≤ e by omega) q5 (show 0 ≤ x - x / 2 by omega) (by omega)
      have D0 := Lib.hid d0
      have D1 := Lib.hid d1
      clear d0 d1
      go_wp2_with fail
      refine (c_impl_DemandOf _ _ _ _ _ _ _ _).mono ?_
      rintro r w4 ⟨rfl, hb4⟩
      rw [D0.out.1, D0.out.2]
      obtain ⟨k0, k1, k2, k3, k4, k5⟩ := Five.below ⟨k0, k1, k2, k3, k4, k5⟩ hb4
      have HB4 := Lib.hid (below2 HB3.out hb4)
      clear hb4
      go_wp2_with fail
      refine (c_impl_DemandOf _ _ _ _ _ _ _ _).mono ?_
      rintro r w5 ⟨rfl, hb5⟩
      rw [D1.out.1, D1.out.2]
      have HB5 := Lib.hid (below2 HB4.out hb5)
      clear hb5 D0 D1
      generalize dmd l h e x hi = N at *
      generalize dmd l h e (x / 2) hi = N0 at *
      generalize dmd l h e (x - x / 2) hi = N1 at *
      go_wp2
      go_ret
      exact ⟨ret_bool (by first | (simp; done) | (simp; omega)), HB5.out⟩
set_option maxHeartbeats 1000000 in
theorem w_FnDemandOne (A : Option Addr) (n c : Nat) (w : World) (hm : n ≤ maxLen) (hcode : IsBytes w A n c) : Calls Try.prog 6 #[.slice A n c] w (Ret w (.bool true)) := by
  unfold maxLen at hm
  by_cases hn : 1048576 < n
  · go_enter Try.func6, Try.ntmps6
    go_wp2
    go_ret
    exact ⟨rfl, Below.refl _ _⟩
  · go_enter Try.func6, Try.ntmps6
    go_wp2_with fail
    refine (c_DrawDemandOf A n c w hcode (by omega)).mono ?_
    rintro r w1 ⟨v, ⟨l, h, d, e, cr, x, hi, rfl⟩, rfl, hb1⟩
    have HB1 := Lib.hid hb1
    clear hb1
    have F1 := Five.new w1 30 (.int .i64 l) (.int .i64 h) (.int .i64 d) (.int .i64 e) (.bool cr)
    go_wp2_with fail
    refine (c_impl_DemandOf _ _ _ _ _ _ _ _).mono ?_
    rintro r w2 ⟨rfl, hb2⟩
    have F2 := F1.below hb2
    have HB2 := Lib.hid (below2 HB1.out (below2 (below_alloc _) hb2))
    clear hb2 F1
    obtain ⟨k0, k1, k2, k3, k4, k5⟩ := F2
    go_wp2_with fail
    refine (c_spec_DemandOf _ _ _ _ _ _ _ _).mono ?_
    rintro r w3 ⟨rfl, hb3⟩
    have F3 := Five.below ⟨k0, k1, k2, k3, k4, k5⟩ hb3
    have HB3 := Lib.hid (below2 HB2.out hb3)
    clear hb3 k0 k1 k2 k3 k4 k5
    generalize w1.heap.size = B at *
    obtain ⟨k0, k1, k2, k3, k4, k5⟩ := F3
    rcases do_ways l h d e cr x hi with ⟨_, e1, e2⟩ | ⟨_, _, e1, e2⟩ | ⟨_, _, _, e1, e2⟩ | ⟨ht, hx0, hx1, e1, e2⟩
    · go_wp2
      go_ret
      exact ⟨rfl, HB3.out⟩
    · go_wp2
      go_ret
      exact ⟨rfl, HB3.out⟩
    · go_wp2
      go_ret
      exact ⟨rfl, HB3.out⟩
    · obtain ⟨q1, q2, q3, q4, q5, q6⟩ := tvB_true ht
      clear q6
      rw [e1, e2]
      clear e1 e2
      obtain ⟨j1, j2, j3⟩ := jobs_one (show 1 ≤ e by omega) q5
      have d0 := do_true ht (x := 1) (by omega) (by omega) false
      have d1 := do_true ht (x := e) (by omega) (by omega) true
      have d2 := do_true ht (x := e + 1) (by omega) (by omega) true
      have v0 : dmd l h e 1 false = l := by rw [dmd_need, j1]; unfold need; simp
      have v1 : dmd l h e e true = h := by rw [dmd_need, j2]; unfold need; simp
      have v2 : dmd l h e (e + 1) true = 2 * h := by rw [dmd_need, j3]; unfold need; simp
      rw [v0] at d0
      rw [v1] at d1
      rw [v2] at d2
      have D0 := Lib.hid d0
      have D1 := Lib.hid d1
      have D2 := Lib.hid d2
      clear d0 d1 d2 v0 v1 v2 j1 j2 j3
      go_wp2_with fail
      refine (c_impl_DemandOf _ _ _ _ _ _ _ _).mono ?_
      rintro r w4 ⟨rfl, hb4⟩
      rw [D0.out.1, D0.out.2]
      obtain ⟨k0, k1, k2, k3, k4, k5⟩ := Five.below ⟨k0, k1, k2, k3, k4, k5⟩ hb4
      have HB4 := Lib.hid (below2 HB3.out hb4)
      clear hb4
      go_wp2_with fail
      refine (c_impl_DemandOf _ _ _ _ _ _ _ _).mono ?_
      rintro r w5 ⟨rfl, hb5⟩
      rw [D1.out.1, D1.out.2]
      obtain ⟨k0, k1, k2, k3, k4, k5⟩ := Five.below ⟨k0, k1, k2, k3, k4, k5⟩ hb5
      have HB5 := Lib.hid (below2 HB4.out hb5)
      clear hb5
      go_wp2_with fail
      refine (c_impl_DemandOf _ _ _ _ _ _ _ _).mono ?_
      rintro r w6 ⟨rfl, hb6⟩
      rw [D2.out.1, D2.out.2]
      obtain ⟨k0, k1, k2, k3, k4, k5⟩ := Five.below ⟨k0, k1, k2, k3, k4, k5⟩ hb6
      have HB6 := Lib.hid (below2 HB5.out hb6)
      clear hb6 D0 D1 D2
      go_wp2
      go_ret
      exact ⟨ret_bool (by simp), HB6.out⟩
set_option maxHeartbeats 1000000 in
theorem w_FnDemandOf (A : Option Addr) (n c : Nat) (w : World) (hm : n ≤ maxLen) (hcode : IsBytes w A n c) : Calls Try.prog 5 #[.slice A n c] w (Ret w (.bool true)) := by
  unfold maxLen at hm
  by_cases hn : 1048576 < n
  · go_enter Try.func5, Try.ntmps5
    go_wp2
    go_ret
    exact ⟨rfl, Below.refl _ _⟩
  · go_enter Try.func5, Try.ntmps5
    go_wp2_with fail
    refine (c_DrawDemandOf A n c w hcode (by omega)).mono ?_
    rintro r w1 ⟨v, ⟨l, h, d, e, cr, x, hi, rfl⟩, rfl, hb1⟩
    have HB1 := Lib.hid hb1
    clear hb1
    have F1 := Five.new w1 30 (.int .i64 l) (.int .i64 h) (.int .i64 d) (.int .i64 e) (.bool cr)
    go_wp2_with fail
    refine (c_impl_DemandOf _ _ _ _ _ _ _ _).mono ?_
    rintro r w2 ⟨rfl, hb2⟩
    have F2 := F1.below hb2
    have HB2 := Lib.hid (below2 HB1.out (below2 (below_alloc _) hb2))
    clear hb2 F1
    obtain ⟨k0, k1, k2, k3, k4, k5⟩ := F2
    go_wp2_with fail
    refine (c_spec_DemandOf _ _ _ _ _ _ _ _).mono ?_
    rintro r w3 ⟨rfl, hb3⟩
    have F3 := Five.below ⟨k0, k1, k2, k3, k4, k5⟩ hb3
    have HB3 := Lib.hid (below2 HB2.out hb3)
    clear hb3 k0 k1 k2 k3 k4 k5
    generalize w1.heap.size = B at *
    obtain ⟨k0, k1, k2, k3, k4, k5⟩ := F3
    rcases do_ways l h d e cr x hi with ⟨_, e1, e2⟩ | ⟨_, _, e1, e2⟩ | ⟨_, _, _, e1, e2⟩ | ⟨ht, hx0, hx1, e1, e2⟩
    · go_wp2
      go_ret
      exact ⟨rfl, HB3.out⟩
    · go_wp2
      go_ret
      exact ⟨rfl, HB3.out⟩
    · go_wp2
      go_ret
      exact ⟨rfl, HB3.out⟩
    · obtain ⟨q1, q2, q3, q4, q5, q6⟩ := tvB_true ht
      clear q6
      rw [e1, e2]
      clear e1 e2
      have z := dmd_zero (x := x) hi q1 q2 (show 1 ≤ e by omega) q5 hx0
      have d0 := do_true ht (x := x) (by omega) (by omega) false
      have lo := dmd_low (x := x) hi q1 q2 (show 1 ≤ e by omega) q5 hx0
      have mo := dmd_more (l := l) (h := h) (x := x) hi (show 1 ≤ e by omega) q5
      have b0 := dmd_bd hi q1 q2 (by omega) (show 1 ≤ e by omega) q5 hx0 (show x ≤ 1000000000 by omega)
      have nn := need_pos hi q1 q2
      have hnh : need l h hi = if hi = true then h else l := rfl
      have D0 := Lib.hid d0
      have Z := Lib.hid z
      have MO := Lib.hid mo
      have NH := Lib.hid hnh
      clear d0 z mo hnh
      go_wp2_with fail
      refine (c_impl_DemandOf _ _ _ _ _ _ _ _).mono ?_
      rintro r w4 ⟨rfl, hb4⟩
      rw [D0.out.1, D0.out.2]
      obtain ⟨k0, k1, k2, k3, k4, k5⟩ := Five.below ⟨k0, k1, k2, k3, k4, k5⟩ hb4
      have HB4 := Lib.hid (below2 HB3.out hb4)
      clear hb4
      by_cases hxe : x + e ≤ 1000000
      · have d1 := do_true ht (x := x + e) (by omega) hxe hi
        have D1 := Lib.hid d1
        clear d1
        go_wp2_with fail
        refine (c_impl_DemandOf _ _ _ _ _ _ _ _).mono ?_
        rintro r w5 ⟨rfl, hb5⟩
        rw [D1.out.1, D1.out.2]
        obtain ⟨k0, k1, k2, k3, k4, k5⟩ := Five.below ⟨k0, k1, k2, k3, k4, k5⟩ hb5
        have HB5 := Lib.hid (below2 HB4.out hb5)
        clear hb5 D1 D0 ht
        rw [MO.out]
        clear MO
        generalize dmd l h e x hi = N at *
        generalize dmd l h e x false = N0 at *
        cases hi
        · have hn : need l h false = l := by rw [NH.out]; simp
          rw [hn]
          clear NH nn hn
          by_cases hz : x = 0
          · have hN : N = 0 := Z.out.2 hz
            subst hz hN
            clear Z
            go_wp2
            go_ret
            exact ⟨ret_bool (by first | (simp; done) | (simp; omega)), HB5.out⟩
          · have hN : ¬ N = 0 := fun e => hz (Z.out.1 e)
            have c1 : (N == 0) = false := by rw [beq_eq_false_iff_ne]; exact hN
            have c2 : (x == 0) = false := by rw [beq_eq_false_iff_ne]; exact hz
            clear Z
            go_wp2
            go_ret
            exact ⟨ret_bool (by first | (simp; done) | (simp; omega)), HB5.out⟩
        · have hn : need l h true = h := by rw [NH.out]; simp
          rw [hn]
          clear NH nn hn
          by_cases hz : x = 0
          · have hN : N = 0 := Z.out.2 hz
            subst hz hN
            clear Z
            go_wp2
            go_ret
            exact ⟨ret_bool (by first | (simp; done) | (simp; omega)), HB5.out⟩
          · have hN : ¬ N = 0 := fun e => hz (Z.out.1 e)
            have c1 : (N == 0) = false := by rw [beq_eq_false_iff_ne]; exact hN
            have c2 : (x == 0) = false := by rw [beq_eq_false_iff_ne]; exact hz
            clear Z
            go_wp2
            go_ret
            exact ⟨ret_bool (by first | (simp; done) | (simp; omega)), HB5.out⟩
      · have d1 : doB l h d e cr (x + e) = false ∧ doN l h d e cr (x + e) hi = 0 := by
          rcases do_ways l h d e cr (x + e) hi with ⟨_, e1, e2⟩ | ⟨_, _, e1, e2⟩ | ⟨_, _, _, e1, e2⟩ | ⟨_, _, hc, _, _⟩
          · exact ⟨e2, e1⟩
          · exact ⟨e2, e1⟩
          · exact ⟨e2, e1⟩
          · exact absurd hc hxe
        have D1 := Lib.hid d1
        clear d1
        go_wp2_with fail
        refine (c_impl_DemandOf _ _ _ _ _ _ _ _).mono ?_
        rintro r w5 ⟨rfl, hb5⟩
        rw [D1.out.1, D1.out.2]
        obtain ⟨k0, k1, k2, k3, k4, k5⟩ := Five.below ⟨k0, k1, k2, k3, k4, k5⟩ hb5
        have HB5 := Lib.hid (below2 HB4.out hb5)
        clear hb5 D1 D0 ht
        clear MO
        generalize dmd l h e x hi = N at *
        generalize dmd l h e x false = N0 at *
        cases hi
        · have hn : need l h false = l := by rw [NH.out]; simp
          clear NH nn hn
          by_cases hz : x = 0
          · omega
          · have hN : ¬ N = 0 := fun e => hz (Z.out.1 e)
            have c1 : (N == 0) = false := by rw [beq_eq_false_iff_ne]; exact hN
            have c2 : (x == 0) = false := by rw [beq_eq_false_iff_ne]; exact hz
            clear Z
            go_wp2
            go_ret
            exact ⟨ret_bool (by first | (simp; done) | (simp; omega)), HB5.out⟩
        · have hn : need l h true = h := by rw [NH.out]; simp
          clear NH nn hn
          by_cases hz : x = 0
          · omega
          · have hN : ¬ N = 0 := fun e => hz (Z.out.1 e)
            have c1 : (N == 0) = false := by rw [beq_eq_false_iff_ne]; exact hN
            have c2 : (x == 0) = false := by rw [beq_eq_false_iff_ne]; exact hz
            clear Z
            go_wp2
            go_ret
            exact ⟨ret_bool (by first | (simp; done) | (simp; omega)), HB5.out⟩
end Go.Proofs.Ytkgaimagkjpfcaa
