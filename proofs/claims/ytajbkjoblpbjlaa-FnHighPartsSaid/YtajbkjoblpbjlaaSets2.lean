/-
  Contracts of the functions that draw a list of tasks and something beside.
-/
import Derived.Test.YtajbkjoblpbjlaaSets
import Derived.Test.YtajbkjoblpbjlaaSortS
namespace Go.Proofs.Ytajbkjoblpbjlaa
open Go.RowKit
/-- A drawn list and a number. -/
def CaseTs (w : World) (r : Ending) (w' : World) : Prop := ∃ A n c ts, ∃ a : Int, r = .returned (.tuple #[.slice A n c, .int .i64 a]) ∧ n ≤ 6 ∧ n ≤ c ∧ -1 ≤ a ∧ a ≤ 5 ∧ Below w.heap.size w w' ∧ IsTs w' A n ts
/-- A drawn list and a bool. -/
def SomeTsB (w : World) (r : Ending) (w' : World) : Prop := ∃ A n c ts, ∃ x : Bool, r = .returned (.tuple #[.slice A n c, .bool x]) ∧ n ≤ 6 ∧ n ≤ c ∧ Below w.heap.size w w' ∧ IsTs w' A n ts
set_option maxHeartbeats 1000000 in
theorem c_l3Case (A : Option Addr) (n c : Nat) (w : World) (h : IsBytes w A n c) (hn : n ≤ 1048576) : Calls Try.prog 47 #[.slice A n c] w (CaseTs w) := by
  have H := Lib.hid h
  clear h
  go_enter Try.func47, Try.ntmps47
  go_wp2_with fail
  refine (c_l11Open A n c _ H.out hn).mono ?_
  rintro r w1 ⟨g, n1, c1, rfl, hg, hn1, hb1, hr1⟩
  have HR1 := Lib.hid hr1
  have HB1 := Lib.hid hb1
  have hgl := hr1.lt
  clear hr1 hb1
  go_wp2_with fail
  refine (c_l1Some g A n1 c1 0 _ HR1.out (by omega) (by omega) hn1).mono ?_
  rintro r w2 ⟨A2, n2, c2, ts, rfl, hn2, hg2, ho2, p2, hp2, hp2', hr2⟩
  have HG2 := Lib.hid hg2
  have HO2 := Lib.hid ho2
  have HR2 := Lib.hid hr2
  clear hr2 hg2 ho2 HR1
  go_wp2_with fail
  refine (c_num [1, 0, 2, 3, -1, 5] (fun x => -1 ≤ x ∧ x ≤ 5) (by simp) g _ A n1 c1 p2 _ _ (by simp) HR2.out (by omega) (by omega) hn1 (by simp) (by simp)).mono ?_
  rintro r w3 ⟨a, ⟨ha0, ha1⟩, rfl, hg3, p3, hp3, hp3', hr3⟩
  have HG3 := Lib.hid (grown_trans HG2.out hg3)
  have HO3 := Lib.hid (HO2.out.grown_g hg3 hgl)
  have HR3 := Lib.hid hr3
  clear hr3 hg3 HG2 HO2 HR2
  go_wp2_with fail
  refine (c_pick g A n1 c1 p3 3 _ HR3.out (by omega) (by omega) hn1 (by omega)).mono ?_
  rintro r w4 ⟨v, _, rfl, hg4, p4, hp4, hp4', hr4⟩
  have HG4 := Lib.hid (grown_trans HG3.out hg4)
  have HO4 := Lib.hid (HO3.out.grown_g hg4 hgl)
  have HR4 := Lib.hid hr4
  clear hr4 hg4 HG3 HO3 HR3
  by_cases hv : 0 < v
  · go_wp2_with fail
    refine (c_l1Set g A n1 c1 p4 _ HR4.out (by omega) (by omega) hn1).mono ?_
    rintro r w5 ⟨A5, n5, c5, ts5, rfl, hn5, hg5, ho5, p5, hp5, hp5', hr5⟩
    have HB5 := Lib.hid (below_src HB1.out hg (grown_trans HG4.out hg5))
    have HO5 := Lib.hid ho5.isTs
    clear hg5 ho5 hr5
    go_wp2_with fail
    refine (c_spec_SortDue A5 n5 c5 ts5 _ HO5.out (by omega)).mono ?_
    rintro r w6 ⟨A6, n6, c6, rfl, hb6, ho6⟩
    have HB6 := Lib.hid (below2 HB5.out hb6)
    have HO6 := Lib.hid ho6
    have hn6 : n6 ≤ 6 := by
      have h1 := ho6.1
      have h2 := HO5.out.1
      cases hv : svB ts5
      · rw [srA_no hv] at h1; simp at h1; omega
      · rw [srA_yes hv, srt_len] at h1; omega
    clear hb6 ho6
    go_wp2
    go_ret2
    exact ⟨A6, n6, c6, _, a, rfl, hn6, HO6.out.cap, ha0, ha1, HB6.out, HO6.out.isTs⟩
  · have HB5 := Lib.hid (below_src HB1.out hg HG4.out)
    go_wp2
    go_ret2
    exact ⟨A2, n2, c2, ts, a, rfl, hn2, HO4.out.cap, ha0, ha1, HB5.out, HO4.out.isTs⟩
theorem c_DrawResponseLow (A : Option Addr) (n c : Nat) (w : World) (h : IsBytes w A n c) (hn : n ≤ 1048576) : Calls Try.prog 21 #[.slice A n c] w (CaseTs w) := by
  go_enter Try.func21, Try.ntmps21
  go_wp2_with fail
  refine (c_l3Case A n c _ h hn).mono ?_
  rintro r w1 ⟨A1, n1, c1, ts, a, rfl, hn1, hc1, ha0, ha1, hb1, hi1⟩
  go_wp2
  go_ret2
  exact ⟨A1, n1, c1, ts, a, rfl, hn1, hc1, ha0, ha1, hb1, hi1⟩
set_option maxHeartbeats 400000 in
theorem c_DrawLowShare (A : Option Addr) (n c : Nat) (w : World) (h : IsBytes w A n c) (hn : n ≤ 1048576) : Calls Try.prog 24 #[.slice A n c] w (SomeTsB w) := by
  have H := Lib.hid h
  clear h
  go_enter Try.func24, Try.ntmps24
  go_wp2_with fail
  refine (c_l11Open A n c _ H.out hn).mono ?_
  rintro r w1 ⟨g, n1, c1, rfl, hg, hn1, hb1, hr1⟩
  have HR1 := Lib.hid hr1
  have HB1 := Lib.hid hb1
  have hgl := hr1.lt
  clear hr1 hb1
  go_wp2_with fail
  refine (c_l1Some g A n1 c1 0 _ HR1.out (by omega) (by omega) hn1).mono ?_
  rintro r w2 ⟨A2, n2, c2, ts, rfl, hn2, hg2, ho2, p2, hp2, hp2', hr2⟩
  have HG2 := Lib.hid hg2
  have HO2 := Lib.hid ho2
  have HR2 := Lib.hid hr2
  clear hr2 hg2 ho2 HR1
  go_wp2_with fail
  refine (c_pick g A n1 c1 p2 2 _ HR2.out (by omega) (by omega) hn1 (by omega)).mono ?_
  rintro r w4 ⟨v, _, rfl, hg4, p4, hp4, hp4', hr4⟩
  have HB4 := Lib.hid (below_src HB1.out hg (grown_trans HG2.out hg4))
  have HO4 := Lib.hid (HO2.out.grown_g hg4 hgl)
  clear hr4 hg4 HG2 HO2 HR2
  go_wp2
  go_ret2
  exact ⟨A2, n2, c2, ts, _, rfl, hn2, HO4.out.cap, HB4.out, HO4.out.isTs⟩
end Go.Proofs.Ytajbkjoblpbjlaa
