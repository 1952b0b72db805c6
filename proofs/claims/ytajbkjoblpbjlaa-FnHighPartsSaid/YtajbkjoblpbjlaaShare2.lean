/-
  Contracts of the functions on shares.
-/
import Derived.Test.YtajbkjoblpbjlaaShare
namespace Go.Proofs.Ytajbkjoblpbjlaa
open Go.RowKit
set_option maxHeartbeats 400000 in
theorem c_impl_ShareValid (a b : Int) (w : World) : Calls Try.prog 36 #[.agg #[.int .i64 a, .int .i64 b]] w (Ret w (.bool (shB a b))) := by
  cases hm : msB a b
  · have hs : shB a b = false := by unfold shB; rw [hm]; rfl
    rw [hs]
    clear hs
    go_enter Try.func36, Try.ntmps36
    go_wp2_with fail
    refine (c_impl_MakeShare _ _ _).mono ?_
    rintro r w1 ⟨rfl, hb1⟩
    obtain ⟨hc1, hf1⟩ := bcell hb1
    have hz1 := lt1 hb1
    go_wp2
    go_ret
    refine ⟨rfl, ?_⟩
    have hB := below2 (below_alloc _) hb1
    go_grown
  · have hs : shB a b = (decide (msN a b = a) && decide (msD a b = b)) := by unfold shB; rw [hm]; rfl
    rw [hs]
    clear hs
    go_enter Try.func36, Try.ntmps36
    go_wp2_with fail
    refine (c_impl_MakeShare _ _ _).mono ?_
    rintro r w1 ⟨rfl, hb1⟩
    obtain ⟨hc1, hf1⟩ := bcell hb1
    have hz1 := lt1 hb1
    have hB := below2 (below_alloc _) hb1
    go_wp2
    all_goals
      go_ret
      refine ⟨ret_bool (by simp [*]), ?_⟩
      go_grown
theorem c_isNaN (a : Int) (w : World) : Calls Try.prog 67 #[.int .i64 a] w fun r w' => r = .returned (.bool false) ∧ w = w' := by
  go_enter Try.func67, Try.ntmps67
  go_wp2
  go_ret
  exact ⟨rfl, rfl⟩
def cmpI (a b : Int) : Int := if a < b then -1 else if b < a then 1 else 0
theorem c_Compare (a b : Int) (w : World) : Calls Try.prog 59 #[.int .i64 a, .int .i64 b] w fun r w' => r = .returned (.int .i64 (cmpI a b)) ∧ w = w' := by
  by_cases h1 : a < b
  · have e : cmpI a b = -1 := if_pos h1
    rw [e]
    go_enter Try.func59, Try.ntmps59
    go_wp2_with (go_at_call 67; refine (c_isNaN _ _).mono ?_; rintro r w' ⟨rfl, rfl⟩)
    go_ret
    exact ⟨rfl, rfl⟩
  · by_cases h2 : b < a
    · have e : cmpI a b = 1 := by unfold cmpI; rw [if_neg h1, if_pos h2]
      rw [e]
      go_enter Try.func59, Try.ntmps59
      go_wp2_with (go_at_call 67; refine (c_isNaN _ _).mono ?_; rintro r w' ⟨rfl, rfl⟩)
      go_ret
      exact ⟨rfl, rfl⟩
    · have e : cmpI a b = 0 := by unfold cmpI; rw [if_neg h1, if_neg h2]
      rw [e]
      go_enter Try.func59, Try.ntmps59
      go_wp2_with (go_at_call 67; refine (c_isNaN _ _).mono ?_; rintro r w' ⟨rfl, rfl⟩)
      go_ret
      exact ⟨rfl, rfl⟩
set_option maxHeartbeats 400000 in
theorem c_impl_CompareShares (a b c d : Int) (w : World) : Calls Try.prog 37 #[.agg #[.int .i64 a, .int .i64 b], .agg #[.int .i64 c, .int .i64 d]] w (Ret w (.int .i64 (cmpS a b c d))) := by
  cases h1 : shB a b
  · have e : cmpS a b c d = 0 := by unfold cmpS; rw [h1]; rfl
    rw [e]
    go_enter Try.func37, Try.ntmps37
    go_wp2_with fail
    refine (c_impl_ShareValid _ _ _).mono ?_
    rintro r w1 ⟨rfl, hb1⟩
    have hB := below2 (below2 (below_alloc _) (below_alloc _)) hb1
    go_wp2
    go_ret
    exact ⟨rfl, hB⟩
  · cases h2 : shB c d
    · have e : cmpS a b c d = 0 := by unfold cmpS; rw [h1, h2]; rfl
      rw [e]
      go_enter Try.func37, Try.ntmps37
      go_wp2_with fail
      refine (c_impl_ShareValid _ _ _).mono ?_
      rintro r w1 ⟨rfl, hb1⟩
      obtain ⟨hc1, hf1⟩ := bcell hb1
      go_wp2_with fail
      refine (c_impl_ShareValid _ _ _).mono ?_
      rintro r w2 ⟨rfl, hb2⟩
      have hB := below2 (below2 (below_alloc _) (below_alloc _)) (below2 hb1 hb2)
      go_wp2
      go_ret
      exact ⟨rfl, hB⟩
    · have e : cmpS a b c d = cmpI (a * d) (c * b) := by unfold cmpS cmpI; rw [h1, h2]; rfl
      rw [e]
      obtain ⟨q1, q2, q3, q4, q5, q6⟩ := sum_bd h1 h2
      go_enter Try.func37, Try.ntmps37
      go_wp2_with fail
      refine (c_impl_ShareValid _ _ _).mono ?_
      rintro r w1 ⟨rfl, hb1⟩
      obtain ⟨hc1, hf1⟩ := bcell hb1
      go_wp2_with fail
      refine (c_impl_ShareValid _ _ _).mono ?_
      rintro r w2 ⟨rfl, hb2⟩
      clear hc1 hf1
      have hb3 := below2 hb1 hb2
      obtain ⟨hc1, hf1⟩ := bcell hb3
      have hB := below2 (below2 (below_alloc _) (below_alloc _)) hb3
      go_wp2_with fail
      refine (c_Compare _ _ _).mono ?_
      rintro r w3 ⟨rfl, rfl⟩
      go_wp2
      go_ret
      exact ⟨rfl, hB⟩
set_option maxHeartbeats 400000 in
theorem c_impl_AddShares (a b c d : Int) (w : World) : Calls Try.prog 28 #[.agg #[.int .i64 a, .int .i64 b], .agg #[.int .i64 c, .int .i64 d]] w (Ret w (.tuple #[.agg #[.int .i64 (adN a b c d), .int .i64 (adD a b c d)], .bool (adB a b c d)])) := by
  rcases ad_ways a b c d with ⟨h1, hv, hn, hd⟩ | ⟨h1, h2, hv, hn, hd⟩ | ⟨h1, h2, h3, hv, hn, hd⟩ | ⟨h1, h2, h3, h4, hv, hn, hd⟩ | ⟨h1, h2, h3, h4, hv, hn, hd⟩
  · rw [hv, hn, hd]
    clear hv hn hd
    go_enter Try.func28, Try.ntmps28
    go_wp2_with fail
    refine (c_impl_ShareValid _ _ _).mono ?_
    rintro r w1 ⟨rfl, hb1⟩
    obtain ⟨hc1, hf1⟩ := bcell hb1
    obtain ⟨hz1, hz2, hz3⟩ := lt3 hb1
    have hB := below2 (below2 (below_alloc _) (below2 (below_alloc _) (below_alloc _))) hb1
    go_wp2
    refine bodyPost_ret (v := .tuple #[.agg #[.int .i64 0, .int .i64 0], .bool false]) (by simp [results, Try.results28, go_sem, hc1]) rfl ⟨rfl, ?_⟩
    go_grown
  · rw [hv, hn, hd]
    clear hv hn hd
    go_enter Try.func28, Try.ntmps28
    go_wp2_with fail
    refine (c_impl_ShareValid _ _ _).mono ?_
    rintro r w1 ⟨rfl, hb1⟩
    obtain ⟨hc1, hf1⟩ := bcell hb1
    go_wp2_with fail
    refine (c_impl_ShareValid _ _ _).mono ?_
    rintro r w2 ⟨rfl, hb2⟩
    clear hc1 hf1
    have hb3 := below2 hb1 hb2
    obtain ⟨hc1, hf1⟩ := bcell hb3
    obtain ⟨hz1, hz2, hz3⟩ := lt3 hb3
    have hB := below2 (below2 (below_alloc _) (below2 (below_alloc _) (below_alloc _))) hb3
    go_wp2
    refine bodyPost_ret (v := .tuple #[.agg #[.int .i64 0, .int .i64 0], .bool false]) (by simp [results, Try.results28, go_sem, hc1]) rfl ⟨rfl, ?_⟩
    go_grown
  · rw [hv, hn, hd]
    clear hv hn hd
    obtain ⟨q1, q2, q3, q4, q5, q6⟩ := sum_bd h1 h2
    have h4 : ¬ rn (a * d + c * b) (b * d) ≤ 1000000000 := h3
    clear h3
    go_enter Try.func28, Try.ntmps28
    go_wp2_with fail
    refine (c_impl_ShareValid _ _ _).mono ?_
    rintro r w1 ⟨rfl, hb1⟩
    obtain ⟨hc1, hf1⟩ := bcell hb1
    go_wp2_with fail
    refine (c_impl_ShareValid _ _ _).mono ?_
    rintro r w2 ⟨rfl, hb2⟩
    clear hc1 hf1
    have hb3 := below2 hb1 hb2
    obtain ⟨hc1, hf1⟩ := bcell hb3
    obtain ⟨hz1, hz2, hz3⟩ := lt3 hb3
    clear hb1 hb2
    go_wp2_with fail
    refine (c_reduced _ _ _ (by omega) q5 (by omega) (by omega)).mono ?_
    rintro r w3 ⟨rfl, hb4⟩
    clear hc1 hf1 hz1 hz2 hz3
    have hb5 := below2 hb3 hb4
    obtain ⟨hc1, hf1⟩ := bcell hb5
    obtain ⟨hz1, hz2, hz3⟩ := lt3 hb5
    have hB := below2 (below2 (below_alloc _) (below2 (below_alloc _) (below_alloc _))) hb5
    go_wp2
    refine bodyPost_ret (v := .tuple #[.agg #[.int .i64 0, .int .i64 0], .bool false]) (by simp [results, Try.results28, go_sem, hc1, hz3]) rfl ⟨rfl, ?_⟩
    go_grown
  · rw [hv, hn, hd]
    clear hv hn hd
    obtain ⟨q1, q2, q3, q4, q5, q6⟩ := sum_bd h1 h2
    have h5 : rn (a * d + c * b) (b * d) ≤ 1000000000 := h3
    have h6 : ¬ rd (a * d + c * b) (b * d) ≤ 1000000000 := h4
    clear h3 h4
    go_enter Try.func28, Try.ntmps28
    go_wp2_with fail
    refine (c_impl_ShareValid _ _ _).mono ?_
    rintro r w1 ⟨rfl, hb1⟩
    obtain ⟨hc1, hf1⟩ := bcell hb1
    go_wp2_with fail
    refine (c_impl_ShareValid _ _ _).mono ?_
    rintro r w2 ⟨rfl, hb2⟩
    clear hc1 hf1
    have hb3 := below2 hb1 hb2
    obtain ⟨hc1, hf1⟩ := bcell hb3
    obtain ⟨hz1, hz2, hz3⟩ := lt3 hb3
    clear hb1 hb2
    go_wp2_with fail
    refine (c_reduced _ _ _ (by omega) q5 (by omega) (by omega)).mono ?_
    rintro r w3 ⟨rfl, hb4⟩
    clear hc1 hf1 hz1 hz2 hz3
    have hb5 := below2 hb3 hb4
    obtain ⟨hc1, hf1⟩ := bcell hb5
    obtain ⟨hz1, hz2, hz3⟩ := lt3 hb5
    have hB := below2 (below2 (below_alloc _) (below2 (below_alloc _) (below_alloc _))) hb5
    go_wp2
    refine bodyPost_ret (v := .tuple #[.agg #[.int .i64 0, .int .i64 0], .bool false]) (by simp [results, Try.results28, go_sem, hc1, hz3]) rfl ⟨rfl, ?_⟩
    go_grown
  · rw [hv, hn, hd]
    clear hv hn hd
    obtain ⟨q1, q2, q3, q4, q5, q6⟩ := sum_bd h1 h2
    have h5 : rn (a * d + c * b) (b * d) ≤ 1000000000 := h3
    have h6 : rd (a * d + c * b) (b * d) ≤ 1000000000 := h4
    clear h3 h4
    show Calls _ _ _ _ (Ret w (.tuple #[.agg #[.int .i64 (rn (a * d + c * b) (b * d)), .int .i64 (rd (a * d + c * b) (b * d))], .bool true]))
    go_enter Try.func28, Try.ntmps28
    go_wp2_with fail
    refine (c_impl_ShareValid _ _ _).mono ?_
    rintro r w1 ⟨rfl, hb1⟩
    obtain ⟨hc1, hf1⟩ := bcell hb1
    go_wp2_with fail
    refine (c_impl_ShareValid _ _ _).mono ?_
    rintro r w2 ⟨rfl, hb2⟩
    clear hc1 hf1
    have hb3 := below2 hb1 hb2
    obtain ⟨hc1, hf1⟩ := bcell hb3
    obtain ⟨hz1, hz2, hz3⟩ := lt3 hb3
    clear hb1 hb2
    go_wp2_with fail
    refine (c_reduced _ _ _ (by omega) q5 (by omega) (by omega)).mono ?_
    rintro r w3 ⟨rfl, hb4⟩
    clear hc1 hf1 hz1 hz2 hz3
    have hb5 := below2 hb3 hb4
    obtain ⟨hc1, hf1⟩ := bcell hb5
    obtain ⟨hz1, hz2, hz3⟩ := lt3 hb5
    have hB := below2 (below2 (below_alloc _) (below2 (below_alloc _) (below_alloc _))) hb5
    go_wp2
    refine bodyPost_ret (v := .tuple #[.agg #[.int .i64 (rn (a * d + c * b) (b * d)), .int .i64 (rd (a * d + c * b) (b * d))], .bool true]) (by simp [results, Try.results28, go_sem, hc1, hz3]) rfl ⟨rfl, ?_⟩
    go_grown
theorem l2_world {W w3 : World} {n : Nat} (h : Below (W.drewN n).heap.size (W.drewN n) w3) : Below W.heap.size W w3 := (below_drewN (Below.refl _ _) _).trans h
set_option maxHeartbeats 400000 in
theorem c_l2Add (a b c d : Int) (w : World) (h1 : shB a b = true) (h2 : shB c d = true) : Calls Try.prog 55 #[.agg #[.int .i64 a, .int .i64 b], .agg #[.int .i64 c, .int .i64 d]] w (Ret w (.tuple #[.agg #[.int .i64 (adN a b c d), .int .i64 (adD a b c d)], .bool (adB a b c d)])) := by
  obtain ⟨m1, m2, m3⟩ := l2_make h1 h2
  rw [← m1, ← m2, ← m3]
  obtain ⟨s1, s2⟩ := l2_sm h1 h2
  rw [← s1, ← s2]
  clear m1 m2 m3 s1 s2
  obtain ⟨a0, a1, b0, b1, _, _⟩ := shB_msB h1
  obtain ⟨c0, c1, d0, d1, _, _⟩ := shB_msB h2
  obtain ⟨⟨p1, p2⟩, ⟨p3, p4⟩, ⟨p5, p6⟩, ⟨p7, p8⟩, ⟨p9, p10⟩⟩ := l2_bd a0 a1 b0 b1 c0 c1 d0 d1
  have hb0 : 0 ≤ b := by omega
  have hd0 : 0 ≤ d := by omega
  have g1 : b.tdiv (igcd b d) = rn b d := rn_eq hb0
  have g2 : d.tdiv (igcd b d) = rd b d := rd_eq hd0
  have g3 : ¬ igcd b d = 0 := by have := igcd_pos (x := b) d0; omega
  have g4 : IntKind.i64.wrap (rn b d) = rn b d := IntWalk.i64_in _ (by omega)
  have g5 : IntKind.i64.wrap (rd b d) = rd b d := IntWalk.i64_in _ (by omega)
  have g6 : IntKind.i64.wrap (rn b d * d) = rn b d * d := IntWalk.i64_in _ (by omega)
  have g7 : IntKind.i64.wrap (a * rd b d) = a * rd b d := IntWalk.i64_in _ (by omega)
  have g8 : IntKind.i64.wrap (c * rn b d) = c * rn b d := IntWalk.i64_in _ (by omega)
  have g9 : IntKind.i64.wrap (a * rd b d + c * rn b d) = a * rd b d + c * rn b d := IntWalk.i64_in _ (by omega)
  go_enter Try.func55, Try.ntmps55
  go_wp2_with fail
  refine (c_l1Gcd _ _ _ hb0 hd0 (by omega) (by omega)).mono ?_
  rintro r w1 ⟨rfl, rfl⟩
  go_wp2_with fail
  go_quiet (fail)
  go_wp2_with fail
  go_quiet (fail)
  go_wp2_with fail
  refine (c_l1Gcd _ _ _ (by omega) (by omega) (by omega) (by omega)).mono ?_
  rintro r w1 ⟨rfl, rfl⟩
  clear g1 g2 g3 g4 g5 g6 g7 g8 g9
  rw [igcd_comm (rn b d * d) (a * rd b d + c * rn b d)]
  have g1 : (a * rd b d + c * rn b d).tdiv (igcd (a * rd b d + c * rn b d) (rn b d * d)) = rn (a * rd b d + c * rn b d) (rn b d * d) := rn_eq (by omega)
  have g2 : (rn b d * d).tdiv (igcd (a * rd b d + c * rn b d) (rn b d * d)) = rd (a * rd b d + c * rn b d) (rn b d * d) := rd_eq (by omega)
  have g3 : ¬ igcd (a * rd b d + c * rn b d) (rn b d * d) = 0 := by have := igcd_pos (x := a * rd b d + c * rn b d) p9; omega
  have g4 : IntKind.i64.wrap (rn (a * rd b d + c * rn b d) (rn b d * d)) = rn (a * rd b d + c * rn b d) (rn b d * d) := IntWalk.i64_in _ (by have := rn_bd (a := a * rd b d + c * rn b d) (by omega) p9; omega)
  have g5 : IntKind.i64.wrap (rd (a * rd b d + c * rn b d) (rn b d * d)) = rd (a * rd b d + c * rn b d) (rn b d * d) := IntWalk.i64_in _ (by have := rd_bd (a := a * rd b d + c * rn b d) p9; omega)
  go_wp2_with fail
  go_region_with (go_at_call 54; refine (c_spec_MakeShare _ _ _).mono ?_; rintro r w3 ⟨rfl, hb3⟩; have hb4 := l2_world hb3; clear hb3; obtain ⟨hc1, hf1⟩ := bcell hb4; obtain ⟨hz1, hz2, hz3⟩ := lt3 hb4)
  have hB := below2 (below2 (below_alloc _) (below2 (below_alloc _) (below_alloc _))) hb4
  go_wp2
  refine bodyPost_ret (v := .tuple #[.agg #[.int .i64 (msN (rn (l2N a b c d) (l2D b d)) (rd (l2N a b c d) (l2D b d))), .int .i64 (msD (rn (l2N a b c d) (l2D b d)) (rd (l2N a b c d) (l2D b d)))], .bool (msB (rn (l2N a b c d) (l2D b d)) (rd (l2N a b c d) (l2D b d)))]) (by simp [results, Try.results55, go_sem, hc1, l2N, l2D]) rfl ⟨rfl, ?_⟩
  go_grown
end Go.Proofs.Ytajbkjoblpbjlaa
