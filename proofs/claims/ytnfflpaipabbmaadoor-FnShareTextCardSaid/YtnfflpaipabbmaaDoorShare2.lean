/-
  Contracts of the functions on shares.
-/
import Derived.Test.YtnfflpaipabbmaaDoorShare
namespace Go.Proofs.YtnfflpaipabbmaaDoor
set_option maxRecDepth 100000
open Go.RowKit
set_option maxHeartbeats 400000 in
theorem c_impl_ShareValid (a b : Int) (w : World) : Calls Tryd.prog 17 #[.agg #[.int .i64 a, .int .i64 b]] w (Ret w (.bool (shB a b))) := by
  cases hm : msB a b
  · have hs : shB a b = false := by unfold shB; rw [hm]; rfl
    rw [hs]
    clear hs
    go_enter Tryd.func17, Tryd.ntmps17
    go_wp2_with fail
    refine (c_impl_MakeShare _ _ _).mono ?_
    rintro r w1 ⟨rfl, hb1⟩
    obtain ⟨hc1, hf1⟩ := bcell hb1
    have hz1 := lt1 hb1
    go_wp2
    go_ret
    refine ⟨rfl, ?_⟩
    have hB := below2 (below_alloc _) hb1
    go_grown
  · have hs : shB a b = (decide (msN a b = a) && decide (msD a b = b)) := by unfold shB; rw [hm]; rfl
    rw [hs]
    clear hs
    go_enter Tryd.func17, Tryd.ntmps17
    go_wp2_with fail
    refine (c_impl_MakeShare _ _ _).mono ?_
    rintro r w1 ⟨rfl, hb1⟩
    obtain ⟨hc1, hf1⟩ := bcell hb1
    have hz1 := lt1 hb1
    have hB := below2 (below_alloc _) hb1
    go_wp2
    all_goals
      go_ret
      refine ⟨ret_bool (by simp [*]), ?_⟩
      go_grown
set_option maxHeartbeats 400000 in
theorem c_spec_ShareValid (a b : Int) (w : World) : Calls Tryd.prog 18 #[.agg #[.int .i64 a, .int .i64 b]] w (Ret w (.bool (shB a b))) := by
  cases hm : msB a b
  · have hs : shB a b = false := by unfold shB; rw [hm]; rfl
    rw [hs]
    clear hs
    go_enter Tryd.func18, Tryd.ntmps18
    go_wp2_with fail
    refine (c_spec_MakeShare _ _ _).mono ?_
    rintro r w1 ⟨rfl, hb1⟩
    obtain ⟨hc1, hf1⟩ := bcell hb1
    have hz1 := lt1 hb1
    go_wp2
    go_ret
    refine ⟨rfl, ?_⟩
    have hB := below2 (below_alloc _) hb1
    go_grown
  · have hs : shB a b = (decide (msN a b = a) && decide (msD a b = b)) := by unfold shB; rw [hm]; rfl
    rw [hs]
    clear hs
    go_enter Tryd.func18, Tryd.ntmps18
    go_wp2_with fail
    refine (c_spec_MakeShare _ _ _).mono ?_
    rintro r w1 ⟨rfl, hb1⟩
    obtain ⟨hc1, hf1⟩ := bcell hb1
    have hz1 := lt1 hb1
    have hB := below2 (below_alloc _) hb1
    go_wp2
    all_goals
      go_ret
      refine ⟨ret_bool (by simp [*]), ?_⟩
      go_grown
set_option maxHeartbeats 400000 in
theorem c_impl_AddShares (a b c d : Int) (w : World) : Calls Tryd.prog 20 #[.agg #[.int .i64 a, .int .i64 b], .agg #[.int .i64 c, .int .i64 d]] w (Ret w (.tuple #[.agg #[.int .i64 (adN a b c d), .int .i64 (adD a b c d)], .bool (adB a b c d)])) := by
  rcases ad_ways a b c d with ⟨h1, hv, hn, hd⟩ | ⟨h1, h2, hv, hn, hd⟩ | ⟨h1, h2, h3, hv, hn, hd⟩ | ⟨h1, h2, h3, h4, hv, hn, hd⟩ | ⟨h1, h2, h3, h4, hv, hn, hd⟩
  · rw [hv, hn, hd]
    clear hv hn hd
    go_enter Tryd.func20, Tryd.ntmps20
    go_wp2_with fail
    refine (c_impl_ShareValid _ _ _).mono ?_
    rintro r w1 ⟨rfl, hb1⟩
    obtain ⟨hc1, hf1⟩ := bcell hb1
    obtain ⟨hz1, hz2, hz3⟩ := lt3 hb1
    have hB := below2 (below2 (below_alloc _) (below2 (below_alloc _) (below_alloc _))) hb1
    go_wp2
    refine bodyPost_ret (v := .tuple #[.agg #[.int .i64 0, .int .i64 0], .bool false]) (by simp [results, Tryd.results20, go_sem, hc1]) rfl ⟨rfl, ?_⟩
    go_grown
  · rw [hv, hn, hd]
    clear hv hn hd
    go_enter Tryd.func20, Tryd.ntmps20
    go_wp2_with fail
    refine (c_impl_ShareValid _ _ _).mono ?_
    rintro r w1 ⟨rfl, hb1⟩
    obtain ⟨hc1, hf1⟩ := bcell hb1
    go_wp2_with fail
    refine (c_impl_ShareValid _ _ _).mono ?_
    rintro r w2 ⟨rfl, hb2⟩
    clear hc1 hf1
    have hb3 := below2 hb1 hb2
    obtain ⟨hc1, hf1⟩ := bcell hb3
    obtain ⟨hz1, hz2, hz3⟩ := lt3 hb3
    have hB := below2 (below2 (below_alloc _) (below2 (below_alloc _) (below_alloc _))) hb3
    go_wp2
    refine bodyPost_ret (v := .tuple #[.agg #[.int .i64 0, .int .i64 0], .bool false]) (by simp [results, Tryd.results20, go_sem, hc1]) rfl ⟨rfl, ?_⟩
    go_grown
  · rw [hv, hn, hd]
    clear hv hn hd
    obtain ⟨q1, q2, q3, q4, q5, q6⟩ := sum_bd h1 h2
    have h4 : ¬ rn (a * d + c * b) (b * d) ≤ 1000000000 := h3
    clear h3
    go_enter Tryd.func20, Tryd.ntmps20
    go_wp2_with fail
    refine (c_impl_ShareValid _ _ _).mono ?_
    rintro r w1 ⟨rfl, hb1⟩
    obtain ⟨hc1, hf1⟩ := bcell hb1
    go_wp2_with fail
    refine (c_impl_ShareValid _ _ _).mono ?_
    rintro r w2 ⟨rfl, hb2⟩
    clear hc1 hf1
    have hb3 := below2 hb1 hb2
    obtain ⟨hc1, hf1⟩ := bcell hb3
    obtain ⟨hz1, hz2, hz3⟩ := lt3 hb3
    clear hb1 hb2
    go_wp2_with fail
    refine (c_reduced _ _ _ (by omega) q5 (by omega) (by omega)).mono ?_
    rintro r w3 ⟨rfl, hb4⟩
    clear hc1 hf1 hz1 hz2 hz3
    have hb5 := below2 hb3 hb4
    obtain ⟨hc1, hf1⟩ := bcell hb5
    obtain ⟨hz1, hz2, hz3⟩ := lt3 hb5
    have hB := below2 (below2 (below_alloc _) (below2 (below_alloc _) (below_alloc _))) hb5
    go_wp2
    refine bodyPost_ret (v := .tuple #[.agg #[.int .i64 0, .int .i64 0], .bool false]) (by simp [results, Tryd.results20, go_sem, hc1, hz3]) rfl ⟨rfl, ?_⟩
    go_grown
  · rw [hv, hn, hd]
    clear hv hn hd
    obtain ⟨q1, q2, q3, q4, q5, q6⟩ := sum_bd h1 h2
    have h5 : rn (a * d + c * b) (b * d) ≤ 1000000000 := h3
    have h6 : ¬ rd (a * d + c * b) (b * d) ≤ 1000000000 := h4
    clear h3 h4
    go_enter Tryd.func20, Tryd.ntmps20
    go_wp2_with fail
    refine (c_impl_ShareValid _ _ _).mono ?_
    rintro r w1 ⟨rfl, hb1⟩
    obtain ⟨hc1, hf1⟩ := bcell hb1
    go_wp2_with fail
    refine (c_impl_ShareValid _ _ _).mono ?_
    rintro r w2 ⟨rfl, hb2⟩
    clear hc1 hf1
    have hb3 := below2 hb1 hb2
    obtain ⟨hc1, hf1⟩ := bcell hb3
    obtain ⟨hz1, hz2, hz3⟩ := lt3 hb3
    clear hb1 hb2
    go_wp2_with fail
    refine (c_reduced _ _ _ (by omega) q5 (by omega) (by omega)).mono ?_
    rintro r w3 ⟨rfl, hb4⟩
    clear hc1 hf1 hz1 hz2 hz3
    have hb5 := below2 hb3 hb4
    obtain ⟨hc1, hf1⟩ := bcell hb5
    obtain ⟨hz1, hz2, hz3⟩ := lt3 hb5
    have hB := below2 (below2 (below_alloc _) (below2 (below_alloc _) (below_alloc _))) hb5
    go_wp2
    refine bodyPost_ret (v := .tuple #[.agg #[.int .i64 0, .int .i64 0], .bool false]) (by simp [results, Tryd.results20, go_sem, hc1, hz3]) rfl ⟨rfl, ?_⟩
    go_grown
  · rw [hv, hn, hd]
    clear hv hn hd
    obtain ⟨q1, q2, q3, q4, q5, q6⟩ := sum_bd h1 h2
    have h5 : rn (a * d + c * b) (b * d) ≤ 1000000000 := h3
    have h6 : rd (a * d + c * b) (b * d) ≤ 1000000000 := h4
    clear h3 h4
    show Calls _ _ _ _ (Ret w (.tuple #[.agg #[.int .i64 (rn (a * d + c * b) (b * d)), .int .i64 (rd (a * d + c * b) (b * d))], .bool true]))
    go_enter Tryd.func20, Tryd.ntmps20
    go_wp2_with fail
    refine (c_impl_ShareValid _ _ _).mono ?_
    rintro r w1 ⟨rfl, hb1⟩
    obtain ⟨hc1, hf1⟩ := bcell hb1
    go_wp2_with fail
    refine (c_impl_ShareValid _ _ _).mono ?_
    rintro r w2 ⟨rfl, hb2⟩
    clear hc1 hf1
    have hb3 := below2 hb1 hb2
    obtain ⟨hc1, hf1⟩ := bcell hb3
    obtain ⟨hz1, hz2, hz3⟩ := lt3 hb3
    clear hb1 hb2
    go_wp2_with fail
    refine (c_reduced _ _ _ (by omega) q5 (by omega) (by omega)).mono ?_
    rintro r w3 ⟨rfl, hb4⟩
    clear hc1 hf1 hz1 hz2 hz3
    have hb5 := below2 hb3 hb4
    obtain ⟨hc1, hf1⟩ := bcell hb5
    obtain ⟨hz1, hz2, hz3⟩ := lt3 hb5
    have hB := below2 (below2 (below_alloc _) (below2 (below_alloc _) (below_alloc _))) hb5
    go_wp2
    refine bodyPost_ret (v := .tuple #[.agg #[.int .i64 (rn (a * d + c * b) (b * d)), .int .i64 (rd (a * d + c * b) (b * d))], .bool true]) (by simp [results, Tryd.results20, go_sem, hc1, hz3]) rfl ⟨rfl, ?_⟩
    go_grown
end Go.Proofs.YtnfflpaipabbmaaDoor
