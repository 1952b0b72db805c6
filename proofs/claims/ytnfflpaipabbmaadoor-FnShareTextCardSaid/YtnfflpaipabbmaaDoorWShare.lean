/-
  The walks of the laws on shares that compare the program with the reference.
-/
import Derived.Test.YtnfflpaipabbmaaDoorShare2
namespace Go.Proofs.YtnfflpaipabbmaaDoor
set_option maxRecDepth 100000
open Go.RowKit
theorem c_toShare (a b : Int) (w : World) : Calls Tryd.prog 14 #[.agg #[.int .i64 a, .int .i64 b]] w (Ret w (.agg #[.int .i64 a, .int .i64 b])) := by
  go_enter Tryd.func14, Tryd.ntmps14
  go_wp2
  go_returns
  refine ⟨rfl, ?_⟩
  go_grown
end Go.Proofs.YtnfflpaipabbmaaDoor
