/-
  The walks of the laws on demands.
-/
import Derived.Test.YtfjbpckkbmkhbaaDemand
namespace Go.Proofs.Ytfjbpckkbmkhbaa
open Go.RowKit
set_option maxHeartbeats 400000 in
theorem w_FnExactDemandOf (l h d e : Int) (c : Bool) (x : Int) (hi : Bool) (w : World) : Calls Try.prog 6 #[.agg #[.int .i64 l, .int .i64 h, .int .i64 d, .int .i64 e, .bool c], .int .i64 x, .bool hi] w (Ret w (.bool true)) := by
  go_enter Try.func6, Try.ntmps6
  go_wp2_with fail
  refine (c_toTask _ _ _ _ _ _).mono ?_
  rintro r w1 ⟨rfl, hb1⟩
  go_wp2_with fail
  refine (c_spec_DemandOf _ _ _ _ _ _ _ _).mono ?_
  rintro r w2 ⟨rfl, hb2⟩
  have hb3 := below2 hb1 hb2
  obtain ⟨hc1, hf1⟩ := bcell hb3
  go_wp2_with fail
  refine (c_toTask _ _ _ _ _ _).mono ?_
  rintro r w3 ⟨rfl, hb4⟩
  clear hc1 hf1
  go_wp2_with fail
  refine (c_impl_DemandOf _ _ _ _ _ _ _ _).mono ?_
  rintro r w4 ⟨rfl, hb5⟩
  have hB := below2 (below_alloc _) (below2 hb3 (below2 hb4 hb5))
  go_wp2
  go_ret
  exact ⟨rfl, hB⟩
end Go.Proofs.Ytfjbpckkbmkhbaa
