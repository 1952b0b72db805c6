/-
  The walks of the laws on the text of a task.
-/
import Derived.Test.YtncpnjnmljobgaaDoorText2
import Derived.Test.YtncpnjnmljobgaaDoorDraw3
namespace Go.Proofs.YtncpnjnmljobgaaDoor
set_option maxRecDepth 100000
open Go.RowKit
theorem c_DrawFormatTask (A : Option Addr) (n c : Nat) (w : World) (h : IsBytes w A n c) (hn : n ≤ 1048576) :
    Calls Tryd.prog 8 #[.slice A n c] w (GotV w TaskV) := by
  have H := Lib.hid (h.below (below_alloc (.cells #[.int .i64 0, .int .i64 0, .int .i64 0, .int .i64 0, .bool false] 24)))
  clear h
  go_enter Tryd.func8, Tryd.ntmps8
  go_wp2_with fail
  refine (c_DrawTaskValid A n c _ H.out hn).mono ?_
  rintro r w1 ⟨v, ⟨l, h, d, e, cr, rfl⟩, rfl, hb1⟩
  obtain ⟨hc1, hf1⟩ := bcell hb1
  have hz1 := lt1 hb1
  have hB := below2 (below_alloc _) hb1
  go_wp2
  refine bodyPost_ret (v := .agg #[.int .i64 l, .int .i64 h, .int .i64 d, .int .i64 e, .bool cr]) (by simp [results, Tryd.results8, go_sem, hc1]) rfl ⟨_, ⟨_, _, _, _, _, rfl⟩, rfl, ?_⟩
  go_grown
end Go.Proofs.YtncpnjnmljobgaaDoor
