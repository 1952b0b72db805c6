/-
  The walk of the law FnShareSort.
-/
import Derived.Test.YtbcionecepdkfaaSets2
import Derived.Test.YtbcionecepdkfaaHigh
import Derived.Test.YtbcionecepdkfaaHyper
import Derived.Test.YtbcionecepdkfaaSortWords
import Derived.Test.YtbcionecepdkfaaSortI
namespace Go.Proofs.Ytbcionecepdkfaa
open Go.RowKit
set_option maxHeartbeats 2000000 in
theorem w_FnShareSort (A : Option Addr) (n c : Nat) (w : World) (hm : n ≤ maxLen) (hcode : IsBytes w A n c) : Calls Try.prog 7 #[.slice A n c] w (Ret w (.bool true)) := by
  unfold maxLen at hm
  by_cases hn : 1048576 < n
  · go_enter Try.func7, Try.ntmps7
    go_wp2
    go_ret
    exact ⟨rfl, Below.refl _ _⟩
  · have HC := Lib.hid hcode
    clear hcode
    go_enter Try.func7, Try.ntmps7
    go_wp2_with fail
    refine (c_DrawLowShare A n c _ HC.out (by omega)).mono ?_
    rintro r w1 ⟨A1, n1, c1, ts, cr, rfl, hn1, hnc1, hb1, hi1⟩
    have HB1 := Lib.hid hb1
    have HI1 := Lib.hid hi1
    have HL := Lib.hid hi1.1
    clear hb1 hi1
    go_wp2_with fail
    refine (c_impl_LowShare A1 n1 c1 ts cr _ HI1.out (by omega)).mono ?_
    rintro r w2 ⟨rfl, hb2⟩
    generalize hN : suN ts cr false = N at *
    generalize hD : suD ts cr false = D at *
    have hbx := below2 hb2 (below_alloc (w := w2) (.cells #[.int .i64 N, .int .i64 D] 40))
    have HBW := Lib.hid (below2 HB1.out hbx)
    have HIW := Lib.hid (HI1.out.below hbx)
    have y0 : (w2.alloc (.cells #[.int .i64 N, .int .i64 D] 40)).cell? ⟨w2.heap.size, 0, none⟩ = some (.int .i64 N) := by simp
    have y1 : (w2.alloc (.cells #[.int .i64 N, .int .i64 D] 40)).cell? ⟨w2.heap.size, 1, none⟩ = some (.int .i64 D) := by simp
    have CS := Lib.hid (show ∀ W', IsTs W' A1 n1 ts → Calls Try.prog 24 #[.slice A1 n1 c1, .bool cr] W' (Ret W' (.agg #[.int .i64 N, .int .i64 D])) from fun W' h => by rw [← hN, ← hD]; exact c_spec_LowShare A1 n1 c1 ts cr W' h (by omega))
    have HN := Lib.hid hN
    have HD := Lib.hid hD
    clear hbx hb2 hN hD HB1 HI1
    go_wp2_with fail
    generalize w2.alloc (.cells #[.int .i64 N, .int .i64 D] 40) = W at *
    generalize w2.heap.size = G at *
    cases hv : svB ts
    · have CV := Lib.hid (show ∀ W', IsTs W' A1 n1 ts → Calls Try.prog 15 #[.slice A1 n1 c1] W' (Ret W' (.bool false)) from fun W' h => by rw [← hv]; exact c_impl_SetValid A1 n1 c1 ts W' h (by omega))
      have HZ := Lib.hid (su_no hv cr false)
      clear hv
      go_region_held3 (fun w' => w'.cell? ⟨G, 0, none⟩ = some (.int .i64 N) ∧ w'.cell? ⟨G, 1, none⟩ = some (.int .i64 D)) (go_keep) (first
        | (go_at_call 24; go_must (refine Calls.mono (keep2 (b1 := G) (o1 := 0) (u1 := .int .i64 N) (b2 := G) (o2 := 1) (u2 := .int .i64 D) (CS.out _ HIW.out) ?_ ?_) ?_; iterate 2 (first | (with_reducible assumption) | exact y0 | exact y1 | go_keep)); rintro r wA ⟨⟨rfl, hA⟩, x0, x1⟩; have hIA := HIW.out.below (below_undrew hA))
        | (go_at_call 15; go_must (refine Calls.mono (keep2 (b1 := G) (o1 := 0) (u1 := .int .i64 N) (b2 := G) (o2 := 1) (u2 := .int .i64 D) (CV.out _ hIA) ?_ ?_) ?_; iterate 2 (first | (with_reducible assumption) | exact x0 | exact x1 | go_keep)); rintro r wB ⟨⟨rfl, hB⟩, z0, z1⟩))
      all_goals
        go_wp2_with fail
        obtain rfl : N = 0 := HN.out.symm.trans HZ.out.1
        obtain rfl : D = 0 := HD.out.symm.trans HZ.out.2
        have HBB := Lib.hid (below2 (below2 HBW.out (below_undrew hA)) hB)
        have HIB := Lib.hid (hIA.below hB)
        clear hA hB hIA y0 y1 x0 x1
        go_region_held3 (fun w' => w'.cell? ⟨G, 0, none⟩ = some (.int .i64 0) ∧ w'.cell? ⟨G, 1, none⟩ = some (.int .i64 0)) (go_keep) ((go_at_call 24; go_must (refine Calls.mono (keep2 (b1 := G) (o1 := 0) (u1 := .int .i64 0) (b2 := G) (o2 := 1) (u2 := .int .i64 0) (CS.out _ HIB.out) ?_ ?_) ?_; iterate 2 (first | (with_reducible assumption) | exact z0 | exact z1 | go_keep)); rintro r wC ⟨⟨rfl, hC⟩, q0, q1⟩))
        all_goals
          go_wp2
          go_ret
          exact ⟨rfl, below2 HBB.out (below_undrew hC)⟩
    · have CV := Lib.hid (show ∀ W', IsTs W' A1 n1 ts → Calls Try.prog 15 #[.slice A1 n1 c1] W' (Ret W' (.bool true)) from fun W' h => by rw [← hv]; exact c_impl_SetValid A1 n1 c1 ts W' h (by omega))
      have hl5 := svB_len hv
      have hn5 : n1 ≤ 5 := by have := HL.out; omega
      have HV := Lib.hid hv
      clear hv
      go_region_held3 (fun w' => w'.cell? ⟨G, 0, none⟩ = some (.int .i64 N) ∧ w'.cell? ⟨G, 1, none⟩ = some (.int .i64 D)) (go_keep) (first
        | (go_at_call 24; go_must (refine Calls.mono (keep2 (b1 := G) (o1 := 0) (u1 := .int .i64 N) (b2 := G) (o2 := 1) (u2 := .int .i64 D) (CS.out _ HIW.out) ?_ ?_) ?_; iterate 2 (first | (with_reducible assumption) | exact y0 | exact y1 | go_keep)); rintro r wA ⟨⟨rfl, hA⟩, x0, x1⟩; have hIA := HIW.out.below (below_undrew hA))
        | (go_at_call 15; go_must (refine Calls.mono (keep2 (b1 := G) (o1 := 0) (u1 := .int .i64 N) (b2 := G) (o2 := 1) (u2 := .int .i64 D) (CV.out _ hIA) ?_ ?_) ?_; iterate 2 (first | (with_reducible assumption) | exact x0 | exact x1 | go_keep)); rintro r wB ⟨⟨rfl, hB⟩, z0, z1⟩))
      have HBB := Lib.hid (below2 (below2 HBW.out (below_undrew hA)) hB)
      have HIB := Lib.hid (hIA.below hB)
      have hG := cellLt2 z0
      clear hA hB hIA y0 y1 x0 x1
      have HPV := Lib.hid (fun cr hi => su_srt HV.out cr hi)
      go_wp2_with fail
      refine (c_impl_SortDue A1 n1 c1 ts _ HIB.out hnc1.2 (by omega)).mono ?_
      rintro r w6 ⟨A6, n6, c6, rfl, hb6, ho6⟩
      rw [srA_yes HV.out] at ho6
      have HB6 := Lib.hid (below2 HBB.out hb6)
      have HX6 := Lib.hid ho6.isTs
      have HI6 := Lib.hid (HIB.out.below hb6)
      have hn6 : n6 ≤ 5 := by have := ho6.1; rw [srt_len] at this; have := HL.out; omega
      have p0 := kept z0 hb6 hG
      have p1 := kept z1 hb6 hG
      clear hb6 ho6 z0 z1
      have CV1 := Lib.hid (show ∀ W', IsTs W' A6 n6 (srt ts) → Calls Try.prog 23 #[.slice A6 n6 c6, .bool cr] W' (Ret W' (.agg #[.int .i64 N, .int .i64 D])) from fun W' h => by
        rw [← HN.out, ← HD.out, ← (HPV.out cr false).1, ← (HPV.out cr false).2]; exact c_impl_LowShare A6 n6 c6 (srt ts) cr W' h (by omega))
      have CVH := Lib.hid (show ∀ W', IsTs W' A6 n6 (srt ts) → IsTs W' A1 n1 ts → ∀ (B : Option Addr) (m d : Nat), ((B = A6 ∧ m = n6 ∧ d = c6) ∨ (B = A1 ∧ m = n1 ∧ d = c1)) → Calls Try.prog 25 #[.slice B m d] W' (Ret W' (.agg #[.int .i64 (suN ts true true), .int .i64 (suD ts true true)])) from fun W' h h' B m d hw => by
        rcases hw with ⟨rfl, rfl, rfl⟩ | ⟨rfl, rfl, rfl⟩
        · rw [← (HPV.out true true).1, ← (HPV.out true true).2]; exact c_impl_HighShare B m d (srt ts) W' h (by omega)
        · exact c_impl_HighShare B m d ts W' h' (by omega))
      generalize suN ts true true = P at *
      generalize suD ts true true = Q at *
      go_wp2_with fail
      go_region_held3 (fun w' => w'.cell? ⟨G, 0, none⟩ = some (.int .i64 N) ∧ w'.cell? ⟨G, 1, none⟩ = some (.int .i64 D)) (go_keep) (first
        | (go_at_call 23; go_must (refine Calls.mono (keep2 (b1 := G) (o1 := 0) (u1 := .int .i64 N) (b2 := G) (o2 := 1) (u2 := .int .i64 D) (CV1.out _ HX6.out) ?_ ?_) ?_; iterate 2 (first | (with_reducible assumption) | exact p0 | exact p1 | go_keep)); rintro r wP ⟨⟨rfl, hP⟩, a0, a1⟩; have hcum := below2 HB6.out (below_undrew hP); have hX7 := HX6.out.below (below_undrew hP); have hI7 := HI6.out.below (below_undrew hP))
        | (go_at_call 25; go_must (refine Calls.mono (keep2 (b1 := G) (o1 := 0) (u1 := .int .i64 N) (b2 := G) (o2 := 1) (u2 := .int .i64 D) (CVH.out _ hX7 hI7 _ _ _ (by first | exact .inl ⟨rfl, rfl, rfl⟩ | exact .inr ⟨rfl, rfl, rfl⟩)) ?_ ?_) ?_; iterate 2 (first | (with_reducible assumption) | exact a0 | exact a1 | go_keep)); rintro r wQ ⟨⟨rfl, hQ⟩, a0, a1⟩; have hcum := below2 hcum hQ; have hX7 := hX7.below hQ; have hI7 := hI7.below hQ))
      all_goals
        go_wp2
        go_ret
        exact ⟨rfl, hcum⟩
end Go.Proofs.Ytbcionecepdkfaa
