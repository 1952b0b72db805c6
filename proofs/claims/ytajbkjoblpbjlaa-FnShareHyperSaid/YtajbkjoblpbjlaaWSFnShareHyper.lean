/-
  The walk of the law FnShareHyper.
-/
import Derived.Test.YtajbkjoblpbjlaaSets2
import Derived.Test.YtajbkjoblpbjlaaHigh
import Derived.Test.YtajbkjoblpbjlaaHyper
import Derived.Test.YtajbkjoblpbjlaaWSWords
namespace Go.Proofs.Ytajbkjoblpbjlaa
open Go.RowKit
set_option maxHeartbeats 2000000 in
theorem w_FnShareHyper (A : Option Addr) (n c : Nat) (w : World) (hm : n ≤ maxLen) (hcode : IsBytes w A n c) : Calls Try.prog 9 #[.slice A n c] w (Ret w (.bool true)) := by
  unfold maxLen at hm
  by_cases hn : 1048576 < n
  · go_enter Try.func9, Try.ntmps9
    go_wp2
    go_ret
    exact ⟨rfl, Below.refl _ _⟩
  · have HC := Lib.hid hcode
    clear hcode
    go_enter Try.func9, Try.ntmps9
    go_wp2_with fail
    refine (c_spec_DrawHighShare A n c _ HC.out (by omega)).mono ?_
    rintro r w1 ⟨A1, n1, c1, ts, rfl, hn1, hnc1, hb1, hi1⟩
    have HB1 := Lib.hid hb1
    have HI1 := Lib.hid hi1
    have HL := Lib.hid hi1.1
    clear hb1 hi1
    go_wp2_with fail
    refine (c_impl_HighShare A1 n1 c1 ts _ HI1.out (by omega)).mono ?_
    rintro r w2 ⟨rfl, hb2⟩
    generalize hN : suN ts true true = N at *
    generalize hD : suD ts true true = D at *
    have hbx := below2 hb2 (below_alloc (w := w2) (.cells #[.int .i64 N, .int .i64 D] 39))
    have HBW := Lib.hid (below2 HB1.out hbx)
    have HIW := Lib.hid (HI1.out.below hbx)
    have y0 : (w2.alloc (.cells #[.int .i64 N, .int .i64 D] 39)).cell? ⟨w2.heap.size, 0, none⟩ = some (.int .i64 N) := by simp
    have y1 : (w2.alloc (.cells #[.int .i64 N, .int .i64 D] 39)).cell? ⟨w2.heap.size, 1, none⟩ = some (.int .i64 D) := by simp
    have CS := Lib.hid (show ∀ W', IsTs W' A1 n1 ts → Calls Try.prog 32 #[.slice A1 n1 c1] W' (Ret W' (.agg #[.int .i64 N, .int .i64 D])) from fun W' h => by rw [← hN, ← hD]; exact c_spec_HighShare A1 n1 c1 ts W' h (by omega))
    have HN := Lib.hid hN
    have HD := Lib.hid hD
    clear hbx hb2 hN hD HB1 HI1
    go_wp2_with fail
    generalize w2.alloc (.cells #[.int .i64 N, .int .i64 D] 39) = W at *
    generalize w2.heap.size = G at *
    cases hv : svB ts
    · have CV := Lib.hid (show ∀ W', IsTs W' A1 n1 ts → Calls Try.prog 27 #[.slice A1 n1 c1] W' (Ret W' (.bool false)) from fun W' h => by rw [← hv]; exact c_impl_SetValid A1 n1 c1 ts W' h (by omega))
      have HZ := Lib.hid (su_no hv true true)
      clear hv
      go_region_held3 (fun w' => w'.cell? ⟨G, 0, none⟩ = some (.int .i64 N) ∧ w'.cell? ⟨G, 1, none⟩ = some (.int .i64 D)) (go_keep) (first
        | (go_at_call 32; go_must (refine Calls.mono (keep2 (b1 := G) (o1 := 0) (u1 := .int .i64 N) (b2 := G) (o2 := 1) (u2 := .int .i64 D) (CS.out _ HIW.out) ?_ ?_) ?_; iterate 2 (first | (with_reducible assumption) | exact y0 | exact y1 | go_keep)); rintro r wA ⟨⟨rfl, hA⟩, x0, x1⟩; have hIA := HIW.out.below (below_undrew hA))
        | (go_at_call 27; go_must (refine Calls.mono (keep2 (b1 := G) (o1 := 0) (u1 := .int .i64 N) (b2 := G) (o2 := 1) (u2 := .int .i64 D) (CV.out _ hIA) ?_ ?_) ?_; iterate 2 (first | (with_reducible assumption) | exact x0 | exact x1 | go_keep)); rintro r wB ⟨⟨rfl, hB⟩, z0, z1⟩))
      all_goals
        go_wp2_with fail
        obtain rfl : N = 0 := HN.out.symm.trans HZ.out.1
        obtain rfl : D = 0 := HD.out.symm.trans HZ.out.2
        have HBB := Lib.hid (below2 (below2 HBW.out (below_undrew hA)) hB)
        have HIB := Lib.hid (hIA.below hB)
        clear hA hB hIA y0 y1 x0 x1
        go_region_held3 (fun w' => w'.cell? ⟨G, 0, none⟩ = some (.int .i64 0) ∧ w'.cell? ⟨G, 1, none⟩ = some (.int .i64 0)) (go_keep) ((go_at_call 32; go_must (refine Calls.mono (keep2 (b1 := G) (o1 := 0) (u1 := .int .i64 0) (b2 := G) (o2 := 1) (u2 := .int .i64 0) (CS.out _ HIB.out) ?_ ?_) ?_; iterate 2 (first | (with_reducible assumption) | exact z0 | exact z1 | go_keep)); rintro r wC ⟨⟨rfl, hC⟩, q0, q1⟩))
        all_goals
          go_wp2
          go_ret
          exact ⟨rfl, below2 HBB.out (below_undrew hC)⟩
    · have CV := Lib.hid (show ∀ W', IsTs W' A1 n1 ts → Calls Try.prog 27 #[.slice A1 n1 c1] W' (Ret W' (.bool true)) from fun W' h => by rw [← hv]; exact c_impl_SetValid A1 n1 c1 ts W' h (by omega))
      have hl5 := svB_len hv
      have hn5 : n1 ≤ 5 := by have := HL.out; omega
      have HV := Lib.hid hv
      clear hv
      go_region_held3 (fun w' => w'.cell? ⟨G, 0, none⟩ = some (.int .i64 N) ∧ w'.cell? ⟨G, 1, none⟩ = some (.int .i64 D)) (go_keep) (first
        | (go_at_call 32; go_must (refine Calls.mono (keep2 (b1 := G) (o1 := 0) (u1 := .int .i64 N) (b2 := G) (o2 := 1) (u2 := .int .i64 D) (CS.out _ HIW.out) ?_ ?_) ?_; iterate 2 (first | (with_reducible assumption) | exact y0 | exact y1 | go_keep)); rintro r wA ⟨⟨rfl, hA⟩, x0, x1⟩; have hIA := HIW.out.below (below_undrew hA))
        | (go_at_call 27; go_must (refine Calls.mono (keep2 (b1 := G) (o1 := 0) (u1 := .int .i64 N) (b2 := G) (o2 := 1) (u2 := .int .i64 D) (CV.out _ hIA) ?_ ?_) ?_; iterate 2 (first | (with_reducible assumption) | exact x0 | exact x1 | go_keep)); rintro r wB ⟨⟨rfl, hB⟩, z0, z1⟩))
      have HBB := Lib.hid (below2 (below2 HBW.out (below_undrew hA)) hB)
      have HIB := Lib.hid (hIA.below hB)
      have hG := cellLt2 z0
      clear hA hB hIA y0 y1 x0 x1
      have HOv := Lib.hid (hyp_over HV.out)
      go_wp2_with fail
      refine (c_impl_HyperOf A1 n1 c1 ts _ HIB.out (by omega)).mono ?_
      rintro r w6 ⟨rfl, hb6⟩
      have HB6 := Lib.hid (below2 HBB.out hb6)
      have HI6 := Lib.hid (HIB.out.below hb6)
      have p0 := kept z0 hb6 hG
      have p1 := kept z1 hb6 hG
      have hG6 := Nat.lt_of_lt_of_le hG hb6.size
      have hH := hyN_bds' HV.out
      have HEach := Lib.hid (fun (k : Nat) (t : Tk) (ht : ts[k]? = some t) => nd_ok (svB_ok HV.out ht) true)
      generalize hy : hyN ts = H at *
      have HH1 := hH.1
      have HH2 := hH.2
      clear hb6 z0 z1 hH hy
      go_wp2
      go_loopw [6, 7] (fun u i wr => ∃ k : Nat, k ≤ n1 ∧ i = .int .i64 k ∧ u = .int .i64 (over (nd true) H (sel true (ts.take k))) ∧ Below w6.heap.size w6 wr) (fun _ i _ => n1 - (intOf i).toNat)
      case atStart => exact ⟨0, Nat.zero_le _, rfl, rfl, Below.refl _ _⟩
      case round =>
        obtain ⟨k, hk, rfl, rfl, hb⟩ := hrel
        have HB := Lib.hid hb
        clear hb
        by_cases hlt : k < n1
        · obtain ⟨t, ht⟩ : ∃ t, ts[k]? = some t := at_of (by have := HL.out; omega)
          obtain ⟨b, o, rfl, hbb, g0, g1, g2, g3, g4⟩ := (HI6.out.below HB.out).2 k t ht
          have hnd := HEach.out k t ht
          have hob := HOv.out.1 k
          have HT := Lib.hid ht
          cases hcr : t.crit
          · rw [hcr] at g4
            have HS := Lib.hid (sel_no (cr := true) ht (by rw [hcr]; rfl))
            clear hcr ht g0 g1 g2 g3 hnd hob p0 p1
            go_wp2
            go_roundw
            case rel => exact ⟨k + 1, by omega, by go_num, by rw [HS.out], HB.out⟩
            case measure => simp [intOf]; omega
          · rw [hcr] at g4
            have HS := Lib.hid (sel_yes (cr := true) ht hcr)
            have hdv : H.tdiv t.every = H / t.every := Int.tdiv_eq_ediv_of_nonneg (by omega)
            have q0 : 0 ≤ H / t.every := Int.ediv_nonneg (by omega) (by omega)
            have q1 : H / t.every ≤ H := Int.ediv_le_self _ (by omega)
            have hq : 0 ≤ H / t.every * t.high ∧ H / t.every * t.high ≤ 3200000 * 20 := mul_small q0 (by omega) (by have := hnd.1; unfold nd need at this; simp at this; omega) (by have := hnd.1; have := hnd.2; unfold nd need at this; simp at this; omega)
            generalize hO : over (nd true) H (sel true (ts.take k)) = S at *
            obtain ⟨s0, s1⟩ := hob
            obtain ⟨t0, t1⟩ := hq
            have v1 : IntKind.i64.wrap (H / t.every) = H / t.every := IntWalk.i64_in _ (by omega)
            have v2 : IntKind.i64.wrap (H / t.every * t.high) = H / t.every * t.high := IntWalk.i64_in _ (by omega)
            have v3 : IntKind.i64.wrap (S + H / t.every * t.high) = S + H / t.every * t.high := IntWalk.i64_in _ (by omega)
            have hne : ¬ t.every = 0 := by have := hnd.2; omega
            have HO := Lib.hid hO
            clear hcr ht g0 g2 hnd p0 p1 hO
            go_wp2_with fail
            go_quiet (fail)
            clear hdv v1 v2 v3
            go_wp2
            go_roundw
            case rel => exact ⟨k + 1, by omega, by go_num, by rw [HS.out, over_snoc, HO.out, Int.mul_comm]; rfl, below_drewN HB.out _⟩
            case measure => simp [intOf]; omega
        · have HZ := Lib.hid (show ts.take k = ts from List.take_of_length_le (by have := HL.out; omega))
          rw [HZ.out]
          have HM := Lib.hid HOv.out.2
          generalize over (nd true) H (sel true ts) = S at *
          have r0 := kept p0 HB.out hG6
          have r1 := kept p1 HB.out hG6
          have hGr := Nat.lt_of_lt_of_le hG6 HB.out.size
          have HBr := Lib.hid (below2 HB6.out HB.out)
          clear p0 p1
          go_wp2_with fail
          refine (c_impl_MakeShare S H _).mono ?_
          rintro r w8 ⟨rfl, hb8⟩
          rw [HM.out.1, HM.out.2.1, HM.out.2.2, HN.out, HD.out]
          have u0 := kept r0 hb8 hGr
          have u1 := kept r1 hb8 hGr
          have hG8 := Nat.lt_of_lt_of_le hGr hb8.size
          have HB8 := Lib.hid (below2 (below2 HBr.out hb8) (below_alloc (.cells #[.int .i64 N, .int .i64 D] 39)))
          clear hb8 r0 r1
          go_wp2
          go_ret
          exact ⟨rfl, HB8.out⟩
end Go.Proofs.Ytajbkjoblpbjlaa
