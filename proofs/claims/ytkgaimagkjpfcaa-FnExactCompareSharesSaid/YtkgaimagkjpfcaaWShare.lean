/-
  The walks of the laws on shares that compare the program with the reference.
-/
import Derived.Test.YtkgaimagkjpfcaaShare2
namespace Go.Proofs.Ytkgaimagkjpfcaa
open Go.RowKit
theorem c_toShare (a b : Int) (w : World) : Calls Try.prog 16 #[.agg #[.int .i64 a, .int .i64 b]] w (Ret w (.agg #[.int .i64 a, .int .i64 b])) := by
  go_enter Try.func16, Try.ntmps16
  go_wp2
  go_returns
  refine ⟨rfl, ?_⟩
  go_grown
end Go.Proofs.Ytkgaimagkjpfcaa
