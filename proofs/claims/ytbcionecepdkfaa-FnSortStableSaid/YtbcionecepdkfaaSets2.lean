/-
  Contracts of the functions that draw a list of tasks and something beside.
-/
import Derived.Test.YtbcionecepdkfaaSets
import Derived.Test.YtbcionecepdkfaaSortS
namespace Go.Proofs.Ytbcionecepdkfaa
open Go.RowKit
/-- A drawn list and a number. -/
def CaseTs (w : World) (r : Ending) (w' : World) : Prop := ∃ A n c ts, ∃ a : Int, r = .returned (.tuple #[.slice A n c, .int .i64 a]) ∧ n ≤ 6 ∧ n ≤ c ∧ -1 ≤ a ∧ a ≤ 5 ∧ Below w.heap.size w w' ∧ IsTs w' A n ts
/-- A drawn list and a bool. -/
def SomeTsB (w : World) (r : Ending) (w' : World) : Prop := ∃ A n c ts, ∃ x : Bool, r = .returned (.tuple #[.slice A n c, .bool x]) ∧ n ≤ 6 ∧ (n ≤ c ∧ AForm A) ∧ Below w.heap.size w w' ∧ IsTs w' A n ts
set_option maxHeartbeats 400000 in
theorem c_DrawLowShare (A : Option Addr) (n c : Nat) (w : World) (h : IsBytes w A n c) (hn : n ≤ 1048576) : Calls Try.prog 22 #[.slice A n c] w (SomeTsB w) := by
  have H := Lib.hid h
  clear h
  go_enter Try.func22, Try.ntmps22
  go_wp2_with fail
  refine (c_l11Open A n c _ H.out hn).mono ?_
  rintro r w1 ⟨g, n1, c1, rfl, hg, hn1, hb1, hr1⟩
  have HR1 := Lib.hid hr1
  have HB1 := Lib.hid hb1
  have hgl := hr1.lt
  clear hr1 hb1
  go_wp2_with fail
  refine (c_l1Some g A n1 c1 0 _ HR1.out (by omega) (by omega) hn1).mono ?_
  rintro r w2 ⟨A2, n2, c2, ts, rfl, hn2, hg2, ho2, p2, hp2, hp2', hr2⟩
  have HG2 := Lib.hid hg2
  have HO2 := Lib.hid ho2
  have HR2 := Lib.hid hr2
  clear hr2 hg2 ho2 HR1
  go_wp2_with fail
  refine (c_pick g A n1 c1 p2 2 _ HR2.out (by omega) (by omega) hn1 (by omega)).mono ?_
  rintro r w4 ⟨v, _, rfl, hg4, p4, hp4, hp4', hr4⟩
  have HB4 := Lib.hid (below_src HB1.out hg (grown_trans HG2.out hg4))
  have HO4 := Lib.hid (HO2.out.grown_g hg4 hgl)
  clear hr4 hg4 HG2 HO2 HR2
  go_wp2
  go_ret2
  exact ⟨A2, n2, c2, ts, _, rfl, hn2, ⟨HO4.out.cap, HO4.out.aform⟩, HB4.out, HO4.out.isTs⟩
end Go.Proofs.Ytbcionecepdkfaa
