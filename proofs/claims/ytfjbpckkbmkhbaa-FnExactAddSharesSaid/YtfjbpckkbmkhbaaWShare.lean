/-
  The walks of the laws on shares that compare the program with the reference.
-/
import Derived.Test.YtfjbpckkbmkhbaaShare2
namespace Go.Proofs.Ytfjbpckkbmkhbaa
open Go.RowKit
theorem c_toShare (a b : Int) (w : World) : Calls Try.prog 24 #[.agg #[.int .i64 a, .int .i64 b]] w (Ret w (.agg #[.int .i64 a, .int .i64 b])) := by
  go_enter Try.func24, Try.ntmps24
  go_wp2
  go_returns
  refine ⟨rfl, ?_⟩
  go_grown
theorem c_eqShare_same (a b : Int) (w : World) : Calls Try.prog 20 #[.agg #[.int .i64 a, .int .i64 b], .agg #[.int .i64 a, .int .i64 b]] w (Ret w (.bool true)) := by
  go_enter Try.func20, Try.ntmps20
  go_wp2
  go_ret
  refine ⟨rfl, ?_⟩
  go_grown
set_option maxHeartbeats 400000 in
theorem w_FnExactMakeShare (a b : Int) (w : World) : Calls Try.prog 5 #[.int .i64 a, .int .i64 b] w (Ret w (.bool true)) := by
  go_enter Try.func5, Try.ntmps5
  go_wp2_with fail
  refine (c_spec_MakeShare _ _ _).mono ?_
  rintro r w1 ⟨rfl, hb1⟩
  go_wp2_with fail
  refine (c_impl_MakeShare _ _ _).mono ?_
  rintro r w2 ⟨rfl, hb2⟩
  obtain ⟨hc1, hf1⟩ := bcell hb2
  have hz1 := lt1 hb2
  go_wp2_with fail
  refine (c_eqShare_same _ _ _).mono ?_
  rintro r w3 ⟨rfl, hb3⟩
  have hB := below2 hb1 (below2 (below_alloc _) (below2 hb2 (below2 (below_alloc _) hb3)))
  go_wp2
  go_ret
  exact ⟨rfl, hB⟩
set_option maxHeartbeats 400000 in
theorem w_FnExactShareValid (a b : Int) (w : World) : Calls Try.prog 7 #[.agg #[.int .i64 a, .int .i64 b]] w (Ret w (.bool true)) := by
  go_enter Try.func7, Try.ntmps7
  go_wp2_with fail
  refine (c_toShare _ _ _).mono ?_
  rintro r w1 ⟨rfl, hb1⟩
  go_wp2_with fail
  refine (c_spec_ShareValid _ _ _).mono ?_
  rintro r w2 ⟨rfl, hb2⟩
  have hb3 := below2 hb1 hb2
  obtain ⟨hc1, hf1⟩ := bcell hb3
  go_wp2_with fail
  refine (c_toShare _ _ _).mono ?_
  rintro r w3 ⟨rfl, hb4⟩
  clear hc1 hf1
  go_wp2_with fail
  refine (c_impl_ShareValid _ _ _).mono ?_
  rintro r w4 ⟨rfl, hb5⟩
  have hB := below2 (below_alloc _) (below2 hb3 (below2 hb4 hb5))
  go_wp2
  go_ret
  exact ⟨rfl, hB⟩
end Go.Proofs.Ytfjbpckkbmkhbaa
