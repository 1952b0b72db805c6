/-
  The walks of the laws on shares that compare the program with the reference.
-/
import Derived.Test.YtjnmecfgbakkcaaShare2
namespace Go.Proofs.Ytjnmecfgbakkcaa
open Go.RowKit
theorem c_eqShare_same (a b : Int) (w : World) : Calls Try.prog 32 #[.agg #[.int .i64 a, .int .i64 b], .agg #[.int .i64 a, .int .i64 b]] w (Ret w (.bool true)) := by
  go_enter Try.func32, Try.ntmps32
  go_wp2
  go_ret
  refine ⟨rfl, ?_⟩
  go_grown
end Go.Proofs.Ytjnmecfgbakkcaa
