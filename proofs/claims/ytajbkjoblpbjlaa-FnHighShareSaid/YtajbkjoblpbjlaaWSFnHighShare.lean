/-
  The walk of the law FnHighShare.
-/
import Derived.Test.YtajbkjoblpbjlaaSets2
import Derived.Test.YtajbkjoblpbjlaaHigh
import Derived.Test.YtajbkjoblpbjlaaHyper
import Derived.Test.YtajbkjoblpbjlaaWSWords
namespace Go.Proofs.Ytajbkjoblpbjlaa
open Go.RowKit
set_option maxHeartbeats 2000000 in
theorem w_FnHighShare (A : Option Addr) (n c : Nat) (w : World) (hm : n ≤ maxLen) (hcode : IsBytes w A n c) : Calls Try.prog 11 #[.slice A n c] w (Ret w (.bool true)) := by
  unfold maxLen at hm
  by_cases hn : 1048576 < n
  · go_enter Try.func11, Try.ntmps11
    go_wp2
    go_ret
    exact ⟨rfl, Below.refl _ _⟩
  · have HC := Lib.hid hcode
    clear hcode
    go_enter Try.func11, Try.ntmps11
    go_wp2_with fail
    refine (c_spec_DrawHighShare A n c _ HC.out (by omega)).mono ?_
    rintro r w1 ⟨A1, n1, c1, ts, rfl, hn1, hnc1, hb1, hi1⟩
    have HB1 := Lib.hid hb1
    have HI1 := Lib.hid hi1
    have HL := Lib.hid hi1.1
    clear hb1 hi1
    go_wp2_with fail
    refine (c_impl_HighShare A1 n1 c1 ts _ HI1.out (by omega)).mono ?_
    rintro r w2 ⟨rfl, hb2⟩
    generalize hN : suN ts true true = N at *
    generalize hD : suD ts true true = D at *
    have hbx := below2 hb2 (below_alloc (w := w2) (.cells #[.int .i64 N, .int .i64 D] 39))
    have HBW := Lib.hid (below2 HB1.out hbx)
    have HIW := Lib.hid (HI1.out.below hbx)
    have y0 : (w2.alloc (.cells #[.int .i64 N, .int .i64 D] 39)).cell? ⟨w2.heap.size, 0, none⟩ = some (.int .i64 N) := by simp
    have y1 : (w2.alloc (.cells #[.int .i64 N, .int .i64 D] 39)).cell? ⟨w2.heap.size, 1, none⟩ = some (.int .i64 D) := by simp
    have CS := Lib.hid (show ∀ W', IsTs W' A1 n1 ts → Calls Try.prog 32 #[.slice A1 n1 c1] W' (Ret W' (.agg #[.int .i64 N, .int .i64 D])) from fun W' h => by rw [← hN, ← hD]; exact c_spec_HighShare A1 n1 c1 ts W' h (by omega))
    have HN := Lib.hid hN
    have HD := Lib.hid hD
    clear hbx hb2 hN hD HB1 HI1
    go_wp2_with fail
    generalize w2.alloc (.cells #[.int .i64 N, .int .i64 D] 39) = W at *
    generalize w2.heap.size = G at *
    cases hv : svB ts
    · have CV := Lib.hid (show ∀ W', IsTs W' A1 n1 ts → Calls Try.prog 27 #[.slice A1 n1 c1] W' (Ret W' (.bool false)) from fun W' h => by rw [← hv]; exact c_impl_SetValid A1 n1 c1 ts W' h (by omega))
      have HZ := Lib.hid (su_no hv true true)
      clear hv
      go_region_held3 (fun w' => w'.cell? ⟨G, 0, none⟩ = some (.int .i64 N) ∧ w'.cell? ⟨G, 1, none⟩ = some (.int .i64 D)) (go_keep) (first
        | (go_at_call 32; go_must (refine Calls.mono (keep2 (b1 := G) (o1 := 0) (u1 := .int .i64 N) (b2 := G) (o2 := 1) (u2 := .int .i64 D) (CS.out _ HIW.out) ?_ ?_) ?_; iterate 2 (first | (with_reducible assumption) | exact y0 | exact y1 | go_keep)); rintro r wA ⟨⟨rfl, hA⟩, x0, x1⟩; have hIA := HIW.out.below (below_undrew hA))
        | (go_at_call 27; go_must (refine Calls.mono (keep2 (b1 := G) (o1 := 0) (u1 := .int .i64 N) (b2 := G) (o2 := 1) (u2 := .int .i64 D) (CV.out _ hIA) ?_ ?_) ?_; iterate 2 (first | (with_reducible assumption) | exact x0 | exact x1 | go_keep)); rintro r wB ⟨⟨rfl, hB⟩, z0, z1⟩))
      all_goals
        go_wp2_with fail
        obtain rfl : N = 0 := HN.out.symm.trans HZ.out.1
        obtain rfl : D = 0 := HD.out.symm.trans HZ.out.2
        have HBB := Lib.hid (below2 (below2 HBW.out (below_undrew hA)) hB)
        have HIB := Lib.hid (hIA.below hB)
        clear hA hB hIA y0 y1 x0 x1
        go_region_held3 (fun w' => w'.cell? ⟨G, 0, none⟩ = some (.int .i64 0) ∧ w'.cell? ⟨G, 1, none⟩ = some (.int .i64 0)) (go_keep) ((go_at_call 32; go_must (refine Calls.mono (keep2 (b1 := G) (o1 := 0) (u1 := .int .i64 0) (b2 := G) (o2 := 1) (u2 := .int .i64 0) (CS.out _ HIB.out) ?_ ?_) ?_; iterate 2 (first | (with_reducible assumption) | exact z0 | exact z1 | go_keep)); rintro r wC ⟨⟨rfl, hC⟩, q0, q1⟩))
        all_goals
          go_wp2
          go_ret
          exact ⟨rfl, below2 HBB.out (below_undrew hC)⟩
    · have CV := Lib.hid (show ∀ W', IsTs W' A1 n1 ts → Calls Try.prog 27 #[.slice A1 n1 c1] W' (Ret W' (.bool true)) from fun W' h => by rw [← hv]; exact c_impl_SetValid A1 n1 c1 ts W' h (by omega))
      have hl5 := svB_len hv
      have hn5 : n1 ≤ 5 := by have := HL.out; omega
      have HV := Lib.hid hv
      clear hv
      go_region_held3 (fun w' => w'.cell? ⟨G, 0, none⟩ = some (.int .i64 N) ∧ w'.cell? ⟨G, 1, none⟩ = some (.int .i64 D)) (go_keep) (first
        | (go_at_call 32; go_must (refine Calls.mono (keep2 (b1 := G) (o1 := 0) (u1 := .int .i64 N) (b2 := G) (o2 := 1) (u2 := .int .i64 D) (CS.out _ HIW.out) ?_ ?_) ?_; iterate 2 (first | (with_reducible assumption) | exact y0 | exact y1 | go_keep)); rintro r wA ⟨⟨rfl, hA⟩, x0, x1⟩; have hIA := HIW.out.below (below_undrew hA))
        | (go_at_call 27; go_must (refine Calls.mono (keep2 (b1 := G) (o1 := 0) (u1 := .int .i64 N) (b2 := G) (o2 := 1) (u2 := .int .i64 D) (CV.out _ hIA) ?_ ?_) ?_; iterate 2 (first | (with_reducible assumption) | exact x0 | exact x1 | go_keep)); rintro r wB ⟨⟨rfl, hB⟩, z0, z1⟩))
      have HBB := Lib.hid (below2 (below2 HBW.out (below_undrew hA)) hB)
      have HIB := Lib.hid (hIA.below hB)
      have hG := cellLt2 z0
      clear hA hB hIA y0 y1 x0 x1
      have HSh := Lib.hid (by have h := su_sh HV.out true true; rw [HN.out, HD.out] at h; exact h)
      have HNo := Lib.hid (by have h := su_none HV.out; rw [HN.out] at h; exact h)
      have HSc := Lib.hid (su_crit HV.out)
      go_wp2_with fail
      refine (c_impl_CriticalOf A1 n1 c1 ts _ HIB.out (by omega)).mono ?_
      rintro r w6 ⟨A6, n6, c6, rfl, hb6, ho6⟩
      rw [crA_yes HV.out] at ho6
      have HB6 := Lib.hid (below2 HBB.out hb6)
      have HX6 := Lib.hid ho6.isTs
      have HL6 := Lib.hid ho6.1
      have hn6 : n6 ≤ 6 := by have := ho6.1; have := critL_len ts; have := HL.out; omega
      have p0 := kept z0 hb6 hG
      have p1 := kept z1 hb6 hG
      clear hb6 ho6 z0 z1
      have CV1 := Lib.hid (show ∀ W', Calls Try.prog 36 #[.agg #[.int .i64 N, .int .i64 D]] W' (Ret W' (.bool true)) from fun W' => by rw [← HSh.out]; exact c_impl_ShareValid N D W')
      have CV2 := Lib.hid (show ∀ W', IsTs W' A6 n6 (critL ts) → Calls Try.prog 25 #[.slice A6 n6 c6, .bool true] W' (Ret W' (.agg #[.int .i64 N, .int .i64 D])) from fun W' h => by
        rw [← HN.out, ← HD.out, ← (HSc.out false).1, ← (HSc.out false).2]; exact c_impl_LowShare A6 n6 c6 (critL ts) true W' h (by omega))
      have CV3 := Lib.hid (show ∀ W', IsTs W' A6 n6 (critL ts) → Calls Try.prog 31 #[.slice A6 n6 c6] W' (Ret W' (.agg #[.int .i64 N, .int .i64 D])) from fun W' h => by
        rw [← HN.out, ← HD.out, ← (HSc.out true).1, ← (HSc.out true).2]; exact c_impl_HighShare A6 n6 c6 (critL ts) W' h (by omega))
      by_cases h60 : n6 = 0
      · obtain rfl : N = 0 := HNo.out.2 (by have := HL6.out; omega)
        subst h60
        go_wp2_with fail
        go_region_held3 (fun w' => w'.cell? ⟨G, 0, none⟩ = some (.int .i64 0) ∧ w'.cell? ⟨G, 1, none⟩ = some (.int .i64 D)) (go_keep) (first
          | (go_at_call 36; go_must (refine Calls.mono (keep2 (b1 := G) (o1 := 0) (u1 := .int .i64 0) (b2 := G) (o2 := 1) (u2 := .int .i64 D) (CV1.out _) ?_ ?_) ?_; iterate 2 (first | (with_reducible assumption) | exact p0 | exact p1 | go_keep)); rintro r wP ⟨⟨rfl, hP⟩, a0, a1⟩; have hX7 := HX6.out.below (below_undrew hP))
          | (go_at_call 25; go_must (refine Calls.mono (keep2 (b1 := G) (o1 := 0) (u1 := .int .i64 0) (b2 := G) (o2 := 1) (u2 := .int .i64 D) (CV2.out _ hX7) ?_ ?_) ?_; iterate 2 (first | (with_reducible assumption) | exact a0 | exact a1 | go_keep)); rintro r wQ ⟨⟨rfl, hQ⟩, b0, b1⟩; have hX8 := hX7.below hQ)
          | (go_at_call 31; go_must (refine Calls.mono (keep2 (b1 := G) (o1 := 0) (u1 := .int .i64 0) (b2 := G) (o2 := 1) (u2 := .int .i64 D) (CV3.out _ hX8) ?_ ?_) ?_; iterate 2 (first | (with_reducible assumption) | exact b0 | exact b1 | go_keep)); rintro r wR ⟨⟨rfl, hR⟩, d0, d1⟩))
        all_goals
          go_wp2
          go_ret
          exact ⟨rfl, below2 (below2 (below2 HB6.out (below_undrew hP)) hQ) hR⟩
      · have hx1 : (N == 0) = false := by rw [beq_eq_false_iff_ne]; intro e; exact h60 (by have := HNo.out.1 e; have := HL6.out; omega)
        have hx2 : ((n6 : Int) == 0) = false := by rw [beq_eq_false_iff_ne]; omega
        go_wp2_with fail
        go_region_held3 (fun w' => w'.cell? ⟨G, 0, none⟩ = some (.int .i64 N) ∧ w'.cell? ⟨G, 1, none⟩ = some (.int .i64 D)) (go_keep) (first
          | (go_at_call 36; go_must (refine Calls.mono (keep2 (b1 := G) (o1 := 0) (u1 := .int .i64 N) (b2 := G) (o2 := 1) (u2 := .int .i64 D) (CV1.out _) ?_ ?_) ?_; iterate 2 (first | (with_reducible assumption) | exact p0 | exact p1 | go_keep)); rintro r wP ⟨⟨rfl, hP⟩, a0, a1⟩; have hX7 := HX6.out.below (below_undrew hP))
          | (go_at_call 25; go_must (refine Calls.mono (keep2 (b1 := G) (o1 := 0) (u1 := .int .i64 N) (b2 := G) (o2 := 1) (u2 := .int .i64 D) (CV2.out _ hX7) ?_ ?_) ?_; iterate 2 (first | (with_reducible assumption) | exact a0 | exact a1 | go_keep)); rintro r wQ ⟨⟨rfl, hQ⟩, b0, b1⟩; have hX8 := hX7.below hQ)
          | (go_at_call 31; go_must (refine Calls.mono (keep2 (b1 := G) (o1 := 0) (u1 := .int .i64 N) (b2 := G) (o2 := 1) (u2 := .int .i64 D) (CV3.out _ hX8) ?_ ?_) ?_; iterate 2 (first | (with_reducible assumption) | exact b0 | exact b1 | go_keep)); rintro r wR ⟨⟨rfl, hR⟩, d0, d1⟩))
        all_goals
          go_wp2
          go_ret
          exact ⟨rfl, below2 (below2 (below2 HB6.out (below_undrew hP)) hQ) hR⟩
end Go.Proofs.Ytajbkjoblpbjlaa
