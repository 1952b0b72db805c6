/-
  The walk of the law FnShareOne.
-/
import Derived.Test.YtajbkjoblpbjlaaSets2
import Derived.Test.YtajbkjoblpbjlaaHigh
import Derived.Test.YtajbkjoblpbjlaaHyper
import Derived.Test.YtajbkjoblpbjlaaWSWords
namespace Go.Proofs.Ytajbkjoblpbjlaa
open Go.RowKit
/-- What a statement 'v := F(..)' leaves: a new block with the share. -/
def BoxLeft (w : World) (N D : Int) (s : Value) (wx : World) : Prop :=
  ∃ g : Nat, s = .pointer (some ⟨g, 0, none⟩) ∧ Below w.heap.size w wx ∧ w.heap.size ≤ g ∧ g < wx.heap.size ∧ wx.cell? ⟨g, 0, none⟩ = some (.int .i64 N) ∧ wx.cell? ⟨g, 1, none⟩ = some (.int .i64 D)
set_option maxHeartbeats 2000000 in
theorem w_FnShareOne (A : Option Addr) (n c : Nat) (w : World) (hm : n ≤ maxLen) (hcode : IsBytes w A n c) : Calls Try.prog 13 #[.slice A n c] w (Ret w (.bool true)) := by
  unfold maxLen at hm
  by_cases hn : 1048576 < n
  · go_enter Try.func13, Try.ntmps13
    go_wp2
    go_ret
    exact ⟨rfl, Below.refl _ _⟩
  · have HC := Lib.hid hcode
    clear hcode
    go_enter Try.func13, Try.ntmps13
    go_wp2_with fail
    refine (c_DrawLowShare A n c _ HC.out (by omega)).mono ?_
    rintro r w1 ⟨A1, n1, c1, ts, cr, rfl, hn1, hnc1, hb1, hi1⟩
    have HB1 := Lib.hid hb1
    have HI1 := Lib.hid hi1
    have HL := Lib.hid hi1.1
    clear hb1 hi1
    go_wp2_with fail
    refine (c_impl_LowShare A1 n1 c1 ts cr _ HI1.out (by omega)).mono ?_
    rintro r w2 ⟨rfl, hb2⟩
    generalize hN : suN ts cr false = N at *
    generalize hD : suD ts cr false = D at *
    have hbx := below2 hb2 (below_alloc (w := w2) (.cells #[.int .i64 N, .int .i64 D] 39))
    have HBW := Lib.hid (below2 HB1.out hbx)
    have HIW := Lib.hid (HI1.out.below hbx)
    have y0 : (w2.alloc (.cells #[.int .i64 N, .int .i64 D] 39)).cell? ⟨w2.heap.size, 0, none⟩ = some (.int .i64 N) := by simp
    have y1 : (w2.alloc (.cells #[.int .i64 N, .int .i64 D] 39)).cell? ⟨w2.heap.size, 1, none⟩ = some (.int .i64 D) := by simp
    have CS := Lib.hid (show ∀ W', IsTs W' A1 n1 ts → Calls Try.prog 26 #[.slice A1 n1 c1, .bool cr] W' (Ret W' (.agg #[.int .i64 N, .int .i64 D])) from fun W' h => by rw [← hN, ← hD]; exact c_spec_LowShare A1 n1 c1 ts cr W' h (by omega))
    have HN := Lib.hid hN
    have HD := Lib.hid hD
    clear hbx hb2 hN hD HB1 HI1
    go_wp2_with fail
    generalize w2.alloc (.cells #[.int .i64 N, .int .i64 D] 39) = W at *
    generalize w2.heap.size = G at *
    cases hv : svB ts
    · have CV := Lib.hid (show ∀ W', IsTs W' A1 n1 ts → Calls Try.prog 27 #[.slice A1 n1 c1] W' (Ret W' (.bool false)) from fun W' h => by rw [← hv]; exact c_impl_SetValid A1 n1 c1 ts W' h (by omega))
      have HZ := Lib.hid (su_no hv cr false)
      clear hv
      (first | go_region_with (first | (go_at_call 26; go_must (refine Calls.mono (keep2 (b1 := G) (o1 := 0) (u1 := .int .i64 N) (b2 := G) (o2 := 1) (u2 := .int .i64 D) (CS.out _ HIW.out) ?_ ?_) ?_; iterate 2 (first | (with_reducible assumption) | exact y0 | exact y1 | go_keep)); rintro r wA ⟨⟨rfl, hA⟩, x0, x1⟩; have hIA := HIW.out.below (below_undrew hA)) | (go_at_call 27; go_must (refine Calls.mono (keep2 (b1 := G) (o1 := 0) (u1 := .int .i64 N) (b2 := G) (o2 := 1) (u2 := .int .i64 D) (CV.out _ hIA) ?_ ?_) ?_; iterate 2 (first | (with_reducible assumption) | exact x0 | exact x1 | go_keep)); rintro r wB ⟨⟨rfl, hB⟩, z0, z1⟩)) | fail)
      all_goals
        go_wp2_with fail
        obtain rfl : N = 0 := HN.out.symm.trans HZ.out.1
        obtain rfl : D = 0 := HD.out.symm.trans HZ.out.2
        have HBB := Lib.hid (below2 (below2 HBW.out (below_undrew hA)) hB)
        have HIB := Lib.hid (hIA.below hB)
        clear hA hB hIA y0 y1 x0 x1
        go_region_held3 (fun w' => w'.cell? ⟨G, 0, none⟩ = some (.int .i64 0) ∧ w'.cell? ⟨G, 1, none⟩ = some (.int .i64 0)) (go_keep) ((go_at_call 26; go_must (refine Calls.mono (keep2 (b1 := G) (o1 := 0) (u1 := .int .i64 0) (b2 := G) (o2 := 1) (u2 := .int .i64 0) (CS.out _ HIB.out) ?_ ?_) ?_; iterate 2 (first | (with_reducible assumption) | exact z0 | exact z1 | go_keep)); rintro r wC ⟨⟨rfl, hC⟩, q0, q1⟩))
        all_goals
          go_wp2
          go_ret
          exact ⟨rfl, below2 HBB.out (below_undrew hC)⟩
    · have CV := Lib.hid (show ∀ W', IsTs W' A1 n1 ts → Calls Try.prog 27 #[.slice A1 n1 c1] W' (Ret W' (.bool true)) from fun W' h => by rw [← hv]; exact c_impl_SetValid A1 n1 c1 ts W' h (by omega))
      have hl5 := svB_len hv
      have hn5 : n1 ≤ 5 := by have := HL.out; omega
      have HV := Lib.hid hv
      clear hv
      by_cases h0 : n1 = 0
      · subst h0
        go_region_held3 (fun w' => w'.cell? ⟨G, 0, none⟩ = some (.int .i64 N) ∧ w'.cell? ⟨G, 1, none⟩ = some (.int .i64 D)) (go_keep) (first
          | (go_at_call 26; go_must (refine Calls.mono (keep2 (b1 := G) (o1 := 0) (u1 := .int .i64 N) (b2 := G) (o2 := 1) (u2 := .int .i64 D) (CS.out _ HIW.out) ?_ ?_) ?_; iterate 2 (first | (with_reducible assumption) | exact y0 | exact y1 | go_keep)); rintro r wA ⟨⟨rfl, hA⟩, x0, x1⟩; have hIA := HIW.out.below (below_undrew hA))
          | (go_at_call 27; go_must (refine Calls.mono (keep2 (b1 := G) (o1 := 0) (u1 := .int .i64 N) (b2 := G) (o2 := 1) (u2 := .int .i64 D) (CV.out _ hIA) ?_ ?_) ?_; iterate 2 (first | (with_reducible assumption) | exact x0 | exact x1 | go_keep)); rintro r wB ⟨⟨rfl, hB⟩, z0, z1⟩))
        all_goals
          go_wp2_with fail
          have HBB := Lib.hid (below2 (below2 HBW.out (below_undrew hA)) hB)
          have HIB := Lib.hid (hIA.below hB)
          clear hA hB hIA y0 y1 x0 x1
          go_region_held3 (fun w' => w'.cell? ⟨G, 0, none⟩ = some (.int .i64 N) ∧ w'.cell? ⟨G, 1, none⟩ = some (.int .i64 D)) (go_keep) ((go_at_call 26; go_must (refine Calls.mono (keep2 (b1 := G) (o1 := 0) (u1 := .int .i64 N) (b2 := G) (o2 := 1) (u2 := .int .i64 D) (CS.out _ HIB.out) ?_ ?_) ?_; iterate 2 (first | (with_reducible assumption) | exact z0 | exact z1 | go_keep)); rintro r wC ⟨⟨rfl, hC⟩, q0, q1⟩))
          all_goals
            go_wp2
            go_ret
            exact ⟨rfl, below2 HBB.out (below_undrew hC)⟩
      have hx0 : ((n1 : Int) == 0) = false := by rw [beq_eq_false_iff_ne]; omega
      go_region_held3 (fun w' => w'.cell? ⟨G, 0, none⟩ = some (.int .i64 N) ∧ w'.cell? ⟨G, 1, none⟩ = some (.int .i64 D)) (go_keep) (first
        | (go_at_call 26; go_must (refine Calls.mono (keep2 (b1 := G) (o1 := 0) (u1 := .int .i64 N) (b2 := G) (o2 := 1) (u2 := .int .i64 D) (CS.out _ HIW.out) ?_ ?_) ?_; iterate 2 (first | (with_reducible assumption) | exact y0 | exact y1 | go_keep)); rintro r wA ⟨⟨rfl, hA⟩, x0, x1⟩; have hIA := HIW.out.below (below_undrew hA))
        | (go_at_call 27; go_must (refine Calls.mono (keep2 (b1 := G) (o1 := 0) (u1 := .int .i64 N) (b2 := G) (o2 := 1) (u2 := .int .i64 D) (CV.out _ hIA) ?_ ?_) ?_; iterate 2 (first | (with_reducible assumption) | exact x0 | exact x1 | go_keep)); rintro r wB ⟨⟨rfl, hB⟩, z0, z1⟩))
      have HBB := Lib.hid (below2 (below2 HBW.out (below_undrew hA)) hB)
      have HIB := Lib.hid (hIA.below hB)
      have hG := cellLt2 z0
      clear hA hB hIA y0 y1 x0 x1
      obtain ⟨t, ht⟩ : ∃ t, ts[0]? = some t := at_of (by have := HL.out; omega)
      have e1 : ts.take 1 = [t] := by
        match ts, ht with
        | u :: us, ht => simp at ht; simp [ht]
      have HV1 := Lib.hid (show svB [t] = true by rw [← e1]; exact take_ok HV.out 1)
      have HE1 := Lib.hid e1
      have HT := Lib.hid ht
      have HO1 := Lib.hid (su_one HV1.out t.crit false)
      have HO2 := Lib.hid (su_one HV1.out true true)
      have hpos := su_one_pos HV1.out
      clear ht e1 z0 z1
      generalize hXN : suN [t] t.crit false = XN at *
      generalize hXD : suD [t] t.crit false = XD at *
      generalize hYN : suN [t] true true = YN at *
      generalize hYD : suD [t] true true = YD at *
      have CX := Lib.hid (show ∀ W', IsTs W' A1 n1 ts → Calls Try.prog 25 #[.slice A1 1 c1, .bool t.crit] W' (Ret W' (.agg #[.int .i64 XN, .int .i64 XD])) from fun W' h => by rw [← hXN, ← hXD, ← HE1.out]; exact c_impl_LowShare A1 1 c1 (ts.take 1) t.crit W' (h.take (by omega)) (by omega))
      have CY := Lib.hid (show ∀ W', IsTs W' A1 n1 ts → Calls Try.prog 31 #[.slice A1 1 c1] W' (Ret W' (.agg #[.int .i64 YN, .int .i64 YD])) from fun W' h => by rw [← hYN, ← hYD, ← HE1.out]; exact c_impl_HighShare A1 1 c1 (ts.take 1) W' (h.take (by omega)) (by omega))
      clear hXN hXD hYN hYD
      have hc1i : (1 : Int) ≤ (c1 : Int) := by omega
      have hn1i : (0 : Int) < (n1 : Int) := by omega
      have hn1n : 0 < n1 := by omega
      go_upto_region 8 with fail
      have hbo := below_alloc (w := wB) (.cells #[.int .i64 1, .int .i64 1] 39)
      have HBo := Lib.hid (below2 HBB.out hbo)
      have HIo := Lib.hid (HIB.out.below hbo)
      have o0 : (wB.alloc (.cells #[.int .i64 1, .int .i64 1] 39)).cell? ⟨wB.heap.size, 0, none⟩ = some (.int .i64 1) := by simp
      have o1 : (wB.alloc (.cells #[.int .i64 1, .int .i64 1] 39)).cell? ⟨wB.heap.size, 1, none⟩ = some (.int .i64 1) := by simp
      clear hbo
      generalize (wB.alloc (.cells #[.int .i64 1, .int .i64 1] 39)) = V at *
      generalize wB.heap.size = E at *
      obtain ⟨b, o, rfl, hbb, g0, g1, g2, g3, g4⟩ := HIo.out.2 0 t HT.out
      simp only [Nat.zero_mul, Nat.add_zero] at g4
      clear g0 g1 g2 g3
      have ne4 := World.new_ne V _ g4
      go_cut [7] (fun s wx => BoxLeft V XN XD s wx)
      case first =>
        clear o0 o1
        go_region_held3 (fun w' => w'.cell? ⟨b, o + 4, none⟩ = some (.bool t.crit) ∧ w'.cell? ⟨b, o + 4, none⟩ = some (.bool t.crit)) (go_keep)
          (first | (go_at_call 25; go_must (refine Calls.mono (keep2 (b1 := b) (o1 := o + 4) (u1 := .bool t.crit) (b2 := b) (o2 := o + 4) (u2 := .bool t.crit) (CX.out _ ?_) ?_ ?_) ?_; (first | exact HIo.out | exact (HIo.out.below (by go_grown))); iterate 2 (first | (with_reducible assumption) | exact g4 | go_keep)); rintro r w3 ⟨⟨rfl, hb3⟩, x0, x3⟩; have e0 := World.new_ne w3 _ x0; obtain ⟨hc3, hf3⟩ := bcell hb3; have hz3 := hb3.size; (try simp at hz3); (try have hz3a := Nat.lt_of_succ_le hz3)))
        all_goals
          go_wp2_with fail
          go_meet
          unfold BoxLeft
          have hB3 : Below V.heap.size V w3 := below2 (by go_grown) hb3
          have s3 := hB3.size
          refine ⟨_, rfl, ?_, ?_, ?_, ?_, ?_⟩
          · go_grown
          · first | omega | (simp; omega)
          · first | omega | (simp; done) | (simp; omega)
          · first | (go_simp; done) | (simp; done)
          · first | (go_simp; done) | (simp; done)
      case rest =>
        obtain ⟨g, rfl, hbw, hg1, hg2, hg3, hg4⟩ := hcut
        have hE : E < V.heap.size := cellLt2 o0
        have k0 := kept o0 hbw hE
        have k1 := kept o1 hbw hE
        have HBc := Lib.hid (below2 HBo.out hbw)
        have HIc := Lib.hid (HIo.out.below hbw)
        clear hbw o0 o1 g4 ne4 hg1
        obtain ⟨wo, rfl⟩ : ∃ wo : World, wo = wc := ⟨_, rfl⟩
        have C1 := Lib.hid (fun W' => c_impl_CompareShares XN XD 1 1 W')
        have C2 := Lib.hid (fun W' => c_impl_CompareShares YN YD 1 1 W')
        have q1 := HO1.out
        have q2 := HO2.out
        generalize cmpS XN XD 1 1 = Q1 at *
        generalize cmpS YN YD 1 1 = Q2 at *
        have d1 : decide (Q1 ≤ 0) = true := decide_eq_true q1
        have d2 : decide (Q2 ≤ 0) = true := decide_eq_true q2
        have d3 : decide (0 < XN) = true := decide_eq_true (by omega)
        go_wp2_with fail
        go_region_held3 (fun w' => w'.cell? ⟨g, 0, none⟩ = some (.int .i64 XN) ∧ w'.cell? ⟨g, 1, none⟩ = some (.int .i64 XD) ∧ w'.cell? ⟨E, 0, none⟩ = some (.int .i64 1) ∧ w'.cell? ⟨E, 1, none⟩ = some (.int .i64 1)) (go_keep) (first
          | (go_at_call_of 37 (Value.agg #[Value.int IntKind.i64 XN, Value.int IntKind.i64 XD]); go_must (refine Calls.mono (keep4 (b1 := g) (u0 := .int .i64 XN) (u1 := .int .i64 XD) (b2 := E) (u2 := .int .i64 1) (u3 := .int .i64 1) (C1.out _) ?_ ?_ ?_ ?_) ?_; iterate 4 (first | (with_reducible assumption) | exact hg3 | exact hg4 | exact k0 | exact k1 | go_keep)); rintro r wP ⟨⟨rfl, hP⟩, a0, a1, a2, a3⟩; have hI1 := HIc.out.below (below_undrew hP))
          | (go_at_call 31; go_must (refine Calls.mono (keep4 (b1 := g) (u0 := .int .i64 XN) (u1 := .int .i64 XD) (b2 := E) (u2 := .int .i64 1) (u3 := .int .i64 1) (CY.out _ hI1) ?_ ?_ ?_ ?_) ?_; iterate 4 (first | (with_reducible assumption) | go_keep)); rintro r wQ ⟨⟨rfl, hQ⟩, b0, b1, b2, b3⟩)
          | (go_at_call_of 37 (Value.agg #[Value.int IntKind.i64 YN, Value.int IntKind.i64 YD]); go_must (refine Calls.mono (keep4 (b1 := g) (u0 := .int .i64 XN) (u1 := .int .i64 XD) (b2 := E) (u2 := .int .i64 1) (u3 := .int .i64 1) (C2.out _) ?_ ?_ ?_ ?_) ?_; iterate 4 (first | (with_reducible assumption) | go_keep)); rintro r wR ⟨⟨rfl, hR⟩, e0, e1, e2, e3⟩))
        all_goals
          go_wp2
          go_ret
          exact ⟨rfl, below2 (below2 (below2 HBc.out (below_undrew hP)) hQ) hR⟩
end Go.Proofs.Ytajbkjoblpbjlaa
