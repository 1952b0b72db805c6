/-
  The walk of the law FnLowShare.
-/
import Derived.Test.YtajbkjoblpbjlaaSets2
import Derived.Test.YtajbkjoblpbjlaaHigh
import Derived.Test.YtajbkjoblpbjlaaHyper
import Derived.Test.YtajbkjoblpbjlaaWSWords
namespace Go.Proofs.Ytajbkjoblpbjlaa
open Go.RowKit
set_option maxHeartbeats 2000000 in
theorem w_FnLowShare (A : Option Addr) (n c : Nat) (w : World) (hm : n ≤ maxLen) (hcode : IsBytes w A n c) : Calls Try.prog 12 #[.slice A n c] w (Ret w (.bool true)) := by
  unfold maxLen at hm
  by_cases hn : 1048576 < n
  · go_enter Try.func12, Try.ntmps12
    go_wp2
    go_ret
    exact ⟨rfl, Below.refl _ _⟩
  · have HC := Lib.hid hcode
    clear hcode
    go_enter Try.func12, Try.ntmps12
    go_wp2_with fail
    refine (c_DrawLowShare A n c _ HC.out (by omega)).mono ?_
    rintro r w1 ⟨A1, n1, c1, ts, cr, rfl, hn1, hnc1, hb1, hi1⟩
    have HB1 := Lib.hid hb1
    have HI1 := Lib.hid hi1
    have HL := Lib.hid hi1.1
    clear hb1 hi1
    go_wp2_with fail
    refine (c_impl_LowShare A1 n1 c1 ts cr _ HI1.out (by omega)).mono ?_
    rintro r w2 ⟨rfl, hb2⟩
    generalize hN : suN ts cr false = N at *
    generalize hD : suD ts cr false = D at *
    have hbx := below2 hb2 (below_alloc (w := w2) (.cells #[.int .i64 N, .int .i64 D] 39))
    have HBW := Lib.hid (below2 HB1.out hbx)
    have HIW := Lib.hid (HI1.out.below hbx)
    have y0 : (w2.alloc (.cells #[.int .i64 N, .int .i64 D] 39)).cell? ⟨w2.heap.size, 0, none⟩ = some (.int .i64 N) := by simp
    have y1 : (w2.alloc (.cells #[.int .i64 N, .int .i64 D] 39)).cell? ⟨w2.heap.size, 1, none⟩ = some (.int .i64 D) := by simp
    have CS := Lib.hid (show ∀ W', IsTs W' A1 n1 ts → Calls Try.prog 26 #[.slice A1 n1 c1, .bool cr] W' (Ret W' (.agg #[.int .i64 N, .int .i64 D])) from fun W' h => by rw [← hN, ← hD]; exact c_spec_LowShare A1 n1 c1 ts cr W' h (by omega))
    have HN := Lib.hid hN
    have HD := Lib.hid hD
    clear hbx hb2 hN hD HB1 HI1
    go_wp2_with fail
    generalize w2.alloc (.cells #[.int .i64 N, .int .i64 D] 39) = W at *
    generalize w2.heap.size = G at *
    cases hv : svB ts
    · have CV := Lib.hid (show ∀ W', IsTs W' A1 n1 ts → Calls Try.prog 27 #[.slice A1 n1 c1] W' (Ret W' (.bool false)) from fun W' h => by rw [← hv]; exact c_impl_SetValid A1 n1 c1 ts W' h (by omega))
      have HZ := Lib.hid (su_no hv cr false)
      clear hv
      go_region_held3 (fun w' => w'.cell? ⟨G, 0, none⟩ = some (.int .i64 N) ∧ w'.cell? ⟨G, 1, none⟩ = some (.int .i64 D)) (go_keep) (first
        | (go_at_call 26; go_must (refine Calls.mono (keep2 (b1 := G) (o1 := 0) (u1 := .int .i64 N) (b2 := G) (o2 := 1) (u2 := .int .i64 D) (CS.out _ HIW.out) ?_ ?_) ?_; iterate 2 (first | (with_reducible assumption) | exact y0 | exact y1 | go_keep)); rintro r wA ⟨⟨rfl, hA⟩, x0, x1⟩; have hIA := HIW.out.below (below_undrew hA))
        | (go_at_call 27; go_must (refine Calls.mono (keep2 (b1 := G) (o1 := 0) (u1 := .int .i64 N) (b2 := G) (o2 := 1) (u2 := .int .i64 D) (CV.out _ hIA) ?_ ?_) ?_; iterate 2 (first | (with_reducible assumption) | exact x0 | exact x1 | go_keep)); rintro r wB ⟨⟨rfl, hB⟩, z0, z1⟩))
      all_goals
        go_wp2_with fail
        obtain rfl : N = 0 := HN.out.symm.trans HZ.out.1
        obtain rfl : D = 0 := HD.out.symm.trans HZ.out.2
        have HBB := Lib.hid (below2 (below2 HBW.out (below_undrew hA)) hB)
        have HIB := Lib.hid (hIA.below hB)
        clear hA hB hIA y0 y1 x0 x1
        go_region_held3 (fun w' => w'.cell? ⟨G, 0, none⟩ = some (.int .i64 0) ∧ w'.cell? ⟨G, 1, none⟩ = some (.int .i64 0)) (go_keep) ((go_at_call 26; go_must (refine Calls.mono (keep2 (b1 := G) (o1 := 0) (u1 := .int .i64 0) (b2 := G) (o2 := 1) (u2 := .int .i64 0) (CS.out _ HIB.out) ?_ ?_) ?_; iterate 2 (first | (with_reducible assumption) | exact z0 | exact z1 | go_keep)); rintro r wC ⟨⟨rfl, hC⟩, q0, q1⟩))
        all_goals
          go_wp2
          go_ret
          exact ⟨rfl, below2 HBB.out (below_undrew hC)⟩
    · have CV := Lib.hid (show ∀ W', IsTs W' A1 n1 ts → Calls Try.prog 27 #[.slice A1 n1 c1] W' (Ret W' (.bool true)) from fun W' h => by rw [← hv]; exact c_impl_SetValid A1 n1 c1 ts W' h (by omega))
      have hl5 := svB_len hv
      have hn5 : n1 ≤ 5 := by have := HL.out; omega
      have HV := Lib.hid hv
      clear hv
      go_region_held3 (fun w' => w'.cell? ⟨G, 0, none⟩ = some (.int .i64 N) ∧ w'.cell? ⟨G, 1, none⟩ = some (.int .i64 D)) (go_keep) (first
        | (go_at_call 26; go_must (refine Calls.mono (keep2 (b1 := G) (o1 := 0) (u1 := .int .i64 N) (b2 := G) (o2 := 1) (u2 := .int .i64 D) (CS.out _ HIW.out) ?_ ?_) ?_; iterate 2 (first | (with_reducible assumption) | exact y0 | exact y1 | go_keep)); rintro r wA ⟨⟨rfl, hA⟩, x0, x1⟩; have hIA := HIW.out.below (below_undrew hA))
        | (go_at_call 27; go_must (refine Calls.mono (keep2 (b1 := G) (o1 := 0) (u1 := .int .i64 N) (b2 := G) (o2 := 1) (u2 := .int .i64 D) (CV.out _ hIA) ?_ ?_) ?_; iterate 2 (first | (with_reducible assumption) | exact x0 | exact x1 | go_keep)); rintro r wB ⟨⟨rfl, hB⟩, z0, z1⟩))
      have HBB := Lib.hid (below2 (below2 HBW.out (below_undrew hA)) hB)
      have HIB := Lib.hid (hIA.below hB)
      have hG := cellLt2 z0
      clear hA hB hIA y0 y1 x0 x1
      have HSh := Lib.hid (by have h := su_sh HV.out cr false; rw [HN.out, HD.out] at h; exact h)
      have HLe := Lib.hid (su_low HV.out)
      go_wp2_with fail
      refine (c_impl_HighShare A1 n1 c1 ts _ HIB.out (by omega)).mono ?_
      rintro r w6 ⟨rfl, hb6⟩
      generalize suN ts true true = HN2 at *
      generalize suD ts true true = HD2 at *
      have hb6' := below2 hb6 (below_alloc (w := w6) (.cells #[.int .i64 HN2, .int .i64 HD2] 39))
      have HB6 := Lib.hid (below2 HBB.out hb6')
      have HI6 := Lib.hid (HIB.out.below hb6')
      have P6 := Lib.hid (Blk.new w6 39 #[.int .i64 HN2, .int .i64 HD2])
      have p0 := kept z0 hb6' hG
      have p1 := kept z1 hb6' hG
      have hG6 := Nat.lt_of_lt_of_le hG hb6'.size
      clear hb6 hb6' z0 z1
      go_wp2_with fail
      refine (c_impl_LowShare A1 n1 c1 ts true _ HI6.out (by omega)).mono ?_
      rintro r w7 ⟨rfl, hb7⟩
      generalize suN ts true false = LN2 at *
      generalize suD ts true false = LD2 at *
      have hb7' := below2 hb7 (below_alloc (w := w7) (.cells #[.int .i64 LN2, .int .i64 LD2] 39))
      have HB7 := Lib.hid (below2 HB6.out hb7')
      have P7 := Lib.hid (P6.out.below hb7' (by simp))
      have Q7 := Lib.hid (Blk.new w7 39 #[.int .i64 LN2, .int .i64 LD2])
      have q0 := kept p0 hb7 hG6
      have q1 := kept p1 hb7 hG6
      have hG7 := Nat.lt_of_lt_of_le hG6 hb7.size
      clear hb7 hb7' p0 p1
      go_wp2_with fail
      refine (c_impl_ShareValid N D _).mono ?_
      rintro r w8 ⟨rfl, hb8⟩
      rw [HSh.out]
      have k1 := (P7.out.below hb8 P7.out.lt).two
      have k2 := (Q7.out.below hb8 Q7.out.lt).two
      obtain ⟨e0, e1, _, _⟩ := k1
      obtain ⟨f0, f1, _, _⟩ := k2
      have HB8 := Lib.hid (below2 HB7.out hb8)
      clear hb8 q0 q1
      go_wp2_with fail
      refine (c_impl_CompareShares _ _ _ _ _).mono ?_
      rintro r w9 ⟨rfl, hb9⟩
      have HB9 := Lib.hid (below2 HB8.out hb9)
      have hle := HLe.out
      clear hb9 e0 e1 f0 f1
      generalize cmpS LN2 LD2 HN2 HD2 = Q at *
      go_wp2
      go_ret
      exact ⟨rfl, HB9.out⟩
end Go.Proofs.Ytajbkjoblpbjlaa
