/-
  The walks of the laws on one task.
-/
import Derived.Test.YtfjbpckkbmkhbaaTask
namespace Go.Proofs.Ytfjbpckkbmkhbaa
open Go.RowKit
theorem w_FnExactConstants (w : World) : Calls Try.prog 3 #[] w (Ret w (.bool true)) := by
  go_enter Try.func3, Try.ntmps3
  go_wp2
  go_ret
  exact ⟨rfl, Below.refl _ _⟩
theorem w_FnExactTaskValid (l h d e : Int) (c : Bool) (w : World) : Calls Try.prog 4 #[.agg #[.int .i64 l, .int .i64 h, .int .i64 d, .int .i64 e, .bool c]] w (Ret w (.bool true)) := by
  go_enter Try.func4, Try.ntmps4
  go_wp2_with fail
  refine (c_toTask _ _ _ _ _ _).mono ?_
  rintro r w1 ⟨rfl, hb1⟩
  obtain ⟨hc1, hf1⟩ := bcell hb1
  go_wp2_with fail
  refine (c_spec_TaskValid _ _ _ _ _ _).mono ?_
  rintro r w2 ⟨rfl, hb2⟩
  clear hc1 hf1
  obtain ⟨hc2, hf2⟩ := bcell (below2 hb1 hb2)
  go_wp2_with fail
  refine (c_toTask _ _ _ _ _ _).mono ?_
  rintro r w3 ⟨rfl, hb3⟩
  clear hc2 hf2
  go_wp2_with fail
  refine (c_impl_TaskValid _ _ _ _ _ _).mono ?_
  rintro r w4 ⟨rfl, hb4⟩
  go_wp2
  go_ret
  exact ⟨rfl, below2 (below_alloc _) (below2 hb1 (below2 hb2 (below2 hb3 hb4)))⟩
end Go.Proofs.Ytfjbpckkbmkhbaa
