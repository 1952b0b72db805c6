/-
  The walk of the law FnHighParts.
-/
import Derived.Test.YtajbkjoblpbjlaaSets2
import Derived.Test.YtajbkjoblpbjlaaHigh
import Derived.Test.YtajbkjoblpbjlaaHyper
import Derived.Test.YtajbkjoblpbjlaaWSWords
namespace Go.Proofs.Ytajbkjoblpbjlaa
open Go.RowKit
set_option maxHeartbeats 2000000 in
theorem w_FnHighParts (A : Option Addr) (n c : Nat) (w : World) (hm : n ≤ maxLen) (hcode : IsBytes w A n c) : Calls Try.prog 10 #[.slice A n c] w (Ret w (.bool true)) := by
  unfold maxLen at hm
  by_cases hn : 1048576 < n
  · go_enter Try.func10, Try.ntmps10
    go_wp2
    go_ret
    exact ⟨rfl, Below.refl _ _⟩
  · have HC := Lib.hid hcode
    clear hcode
    go_enter Try.func10, Try.ntmps10
    go_wp2_with fail
    refine (c_spec_DrawHighShare A n c _ HC.out (by omega)).mono ?_
    rintro r w1 ⟨A1, n1, c1, ts, rfl, hn1, hnc1, hb1, hi1⟩
    have HB1 := Lib.hid hb1
    have HI1 := Lib.hid hi1
    have HL := Lib.hid hi1.1
    clear hb1 hi1
    go_wp2_with fail
    refine (c_impl_HighShare A1 n1 c1 ts _ HI1.out (by omega)).mono ?_
    rintro r w2 ⟨rfl, hb2⟩
    generalize hN : suN ts true true = N at *
    generalize hD : suD ts true true = D at *
    have hbx := below2 hb2 (below_alloc (w := w2) (.cells #[.int .i64 N, .int .i64 D] 39))
    have HBW := Lib.hid (below2 HB1.out hbx)
    have HIW := Lib.hid (HI1.out.below hbx)
    have y0 : (w2.alloc (.cells #[.int .i64 N, .int .i64 D] 39)).cell? ⟨w2.heap.size, 0, none⟩ = some (.int .i64 N) := by simp
    have y1 : (w2.alloc (.cells #[.int .i64 N, .int .i64 D] 39)).cell? ⟨w2.heap.size, 1, none⟩ = some (.int .i64 D) := by simp
    have CS := Lib.hid (show ∀ W', IsTs W' A1 n1 ts → Calls Try.prog 32 #[.slice A1 n1 c1] W' (Ret W' (.agg #[.int .i64 N, .int .i64 D])) from fun W' h => by rw [← hN, ← hD]; exact c_spec_HighShare A1 n1 c1 ts W' h (by omega))
    have HN := Lib.hid hN
    have HD := Lib.hid hD
    clear hbx hb2 hN hD HB1 HI1
    go_wp2_with fail
    generalize w2.alloc (.cells #[.int .i64 N, .int .i64 D] 39) = W at *
    generalize w2.heap.size = G at *
    cases hv : svB ts
    · have CV := Lib.hid (show ∀ W', IsTs W' A1 n1 ts → Calls Try.prog 27 #[.slice A1 n1 c1] W' (Ret W' (.bool false)) from fun W' h => by rw [← hv]; exact c_impl_SetValid A1 n1 c1 ts W' h (by omega))
      have HZ := Lib.hid (su_no hv true true)
      clear hv
      go_region_held3 (fun w' => w'.cell? ⟨G, 0, none⟩ = some (.int .i64 N) ∧ w'.cell? ⟨G, 1, none⟩ = some (.int .i64 D)) (go_keep) (first
        | (go_at_call 32; go_must (refine Calls.mono (keep2 (b1 := G) (o1 := 0) (u1 := .int .i64 N) (b2 := G) (o2 := 1) (u2 := .int .i64 D) (CS.out _ HIW.out) ?_ ?_) ?_; iterate 2 (first | (with_reducible assumption) | exact y0 | exact y1 | go_keep)); rintro r wA ⟨⟨rfl, hA⟩, x0, x1⟩; have hIA := HIW.out.below (below_undrew hA))
        | (go_at_call 27; go_must (refine Calls.mono (keep2 (b1 := G) (o1 := 0) (u1 := .int .i64 N) (b2 := G) (o2 := 1) (u2 := .int .i64 D) (CV.out _ hIA) ?_ ?_) ?_; iterate 2 (first | (with_reducible assumption) | exact x0 | exact x1 | go_keep)); rintro r wB ⟨⟨rfl, hB⟩, z0, z1⟩))
      all_goals
        go_wp2_with fail
        obtain rfl : N = 0 := HN.out.symm.trans HZ.out.1
        obtain rfl : D = 0 := HD.out.symm.trans HZ.out.2
        have HBB := Lib.hid (below2 (below2 HBW.out (below_undrew hA)) hB)
        have HIB := Lib.hid (hIA.below hB)
        clear hA hB hIA y0 y1 x0 x1
        go_region_held3 (fun w' => w'.cell? ⟨G, 0, none⟩ = some (.int .i64 0) ∧ w'.cell? ⟨G, 1, none⟩ = some (.int .i64 0)) (go_keep) ((go_at_call 32; go_must (refine Calls.mono (keep2 (b1 := G) (o1 := 0) (u1 := .int .i64 0) (b2 := G) (o2 := 1) (u2 := .int .i64 0) (CS.out _ HIB.out) ?_ ?_) ?_; iterate 2 (first | (with_reducible assumption) | exact z0 | exact z1 | go_keep)); rintro r wC ⟨⟨rfl, hC⟩, q0, q1⟩))
        all_goals
          go_wp2
          go_ret
          exact ⟨rfl, below2 HBB.out (below_undrew hC)⟩
    · have CV := Lib.hid (show ∀ W', IsTs W' A1 n1 ts → Calls Try.prog 27 #[.slice A1 n1 c1] W' (Ret W' (.bool true)) from fun W' h => by rw [← hv]; exact c_impl_SetValid A1 n1 c1 ts W' h (by omega))
      have hl5 := svB_len hv
      have hn5 : n1 ≤ 5 := by have := HL.out; omega
      have HV := Lib.hid hv
      clear hv
      go_region_held3 (fun w' => w'.cell? ⟨G, 0, none⟩ = some (.int .i64 N) ∧ w'.cell? ⟨G, 1, none⟩ = some (.int .i64 D)) (go_keep) (first
        | (go_at_call 32; go_must (refine Calls.mono (keep2 (b1 := G) (o1 := 0) (u1 := .int .i64 N) (b2 := G) (o2 := 1) (u2 := .int .i64 D) (CS.out _ HIW.out) ?_ ?_) ?_; iterate 2 (first | (with_reducible assumption) | exact y0 | exact y1 | go_keep)); rintro r wA ⟨⟨rfl, hA⟩, x0, x1⟩; have hIA := HIW.out.below (below_undrew hA))
        | (go_at_call 27; go_must (refine Calls.mono (keep2 (b1 := G) (o1 := 0) (u1 := .int .i64 N) (b2 := G) (o2 := 1) (u2 := .int .i64 D) (CV.out _ hIA) ?_ ?_) ?_; iterate 2 (first | (with_reducible assumption) | exact x0 | exact x1 | go_keep)); rintro r wB ⟨⟨rfl, hB⟩, z0, z1⟩))
      have HBB := Lib.hid (below2 (below2 HBW.out (below_undrew hA)) hB)
      have HIB := Lib.hid (hIA.below hB)
      have hG := cellLt2 z0
      clear hA hB hIA y0 y1 x0 x1
      have hPa := su_parts HV.out true true (n1 / 2)
      have hh1 : n1 / 2 ≤ n1 := by omega
      have hh2 : n1 = 0 ∨ n1 / 2 < n1 := by omega
      have hq : (n1 : Int) / 2 = ((n1 / 2 : Nat) : Int) := by omega
      have hq2 : (n1 : Int).tdiv 2 = ((n1 / 2 : Nat) : Int) := by rw [Int.tdiv_eq_ediv_of_nonneg (by omega)]; omega
      generalize n1 / 2 = M at *
      have hqw : IntKind.i64.wrap (M : Int) = (M : Int) := IntWalk.i64_in _ (by omega)
      rw [HN.out, HD.out] at hPa
      generalize hXN : suN (ts.take M) true true = XN at *
      generalize hXD : suD (ts.take M) true true = XD at *
      generalize hYN : suN (ts.drop M) true true = YN at *
      generalize hYD : suD (ts.drop M) true true = YD at *
      have HPa := Lib.hid hPa
      have CA := Lib.hid (show ∀ W', Calls Try.prog 28 #[.agg #[.int .i64 XN, .int .i64 XD], .agg #[.int .i64 YN, .int .i64 YD]] W' (Ret W' (.tuple #[.agg #[.int .i64 N, .int .i64 D], .bool true])) from fun W' => by
        have h := c_impl_AddShares XN XD YN YD W'
        rw [HPa.out.1, HPa.out.2.1, HPa.out.2.2] at h
        exact h)
      clear hPa
      by_cases h0 : n1 = 0
      · obtain rfl : M = 0 := by omega
        subst h0
        have ets : ts = [] := List.length_eq_zero_iff.1 HL.out
        have e1 : YN = XN := by rw [← hXN, ← hYN, ets]; rfl
        have e2 : YD = XD := by rw [← hXD, ← hYD, ets]; rfl
        have CE := Lib.hid (show ∀ W' A' c', Calls Try.prog 31 #[.slice A' 0 c'] W' (Ret W' (.agg #[.int .i64 XN, .int .i64 XD])) from fun W' A' c' => by
          rw [← hXN, ← hXD, ets]; exact c_impl_HighShare A' 0 c' [] W' IsTs.none_ (by omega))
        rw [e1, e2] at CA
        clear hXN hXD hYN hYD e1 e2 ets HPa hh1 hh2
        clear hq hq2 hqw
        have hc00 : (0 : Int) ≤ (c1 : Int) := by omega
        rcases (show c1 = 0 ∨ 0 < c1 by omega) with hcz | hcz
        · subst hcz
          cases A1 with
          | none =>
            go_upto_region 8 with fail
            go_cut [6, 7] (fun s7 s8 wx => AddLeft wB N D true s7 s8 wx)
            case first =>
              clear z0 z1
              go_region_held3 (fun _ => True) (trivial) (first
                | (go_at_call 31; go_must (refine (CE.out _ _ _).mono ?_; rintro r wX ⟨rfl, hX⟩; have hBX : Below wB.heap.size wB wX := below2 (by go_grown) hX; (try have hyX := Nat.lt_of_lt_of_le hzXa hX.size); obtain ⟨hcX, hfX⟩ := bcell hX; have hzX := hX.size; (try simp at hzX); (try have hzXa := Nat.lt_of_succ_le hzX)))
                | (go_at_call 28; go_must (refine (CA.out _).mono ?_; rintro r wZ ⟨rfl, hZ⟩; have hBZ : Below wB.heap.size wB wZ := below2 (by go_grown) hZ; obtain ⟨hcZ, hfZ⟩ := bcell hZ; have hzZ := hZ.size; (try simp at hzZ); (try have hzZa := Nat.lt_of_succ_le hzZ))))
              all_goals
                go_wp2_with fail
                go_meet
                unfold AddLeft
                have s3 := hBZ.size
                refine ⟨_, rfl, rfl, ?_, ?_, ?_, ?_, ?_⟩
                · go_grown
                · first | omega | (simp; omega)
                · first | omega | (simp; done) | (simp; omega)
                · first | (go_simp; done) | (simp; done)
                · first | (go_simp; done) | (simp; done)
            case rest =>
              obtain ⟨g, rfl, rfl, hbw, hg1, hg2, hg3, hg4⟩ := hcut
              have k0 := kept z0 hbw hG
              have k1 := kept z1 hbw hG
              have HBc := Lib.hid (below2 HBB.out hbw)
              clear hbw z0 z1 hg1
              obtain ⟨wo, rfl⟩ : ∃ wo : World, wo = wc := ⟨_, rfl⟩
              go_wp2
              go_ret
              exact ⟨rfl, HBc.out⟩
          | some ad =>
            go_upto_region 8 with fail
            go_cut [6, 7] (fun s7 s8 wx => AddLeft wB N D true s7 s8 wx)
            case first =>
              clear z0 z1
              go_region_held3 (fun _ => True) (trivial) (first
                | (go_at_call 31; go_must (refine (CE.out _ _ _).mono ?_; rintro r wX ⟨rfl, hX⟩; have hBX : Below wB.heap.size wB wX := below2 (by go_grown) hX; (try have hyX := Nat.lt_of_lt_of_le hzXa hX.size); obtain ⟨hcX, hfX⟩ := bcell hX; have hzX := hX.size; (try simp at hzX); (try have hzXa := Nat.lt_of_succ_le hzX)))
                | (go_at_call 28; go_must (refine (CA.out _).mono ?_; rintro r wZ ⟨rfl, hZ⟩; have hBZ : Below wB.heap.size wB wZ := below2 (by go_grown) hZ; obtain ⟨hcZ, hfZ⟩ := bcell hZ; have hzZ := hZ.size; (try simp at hzZ); (try have hzZa := Nat.lt_of_succ_le hzZ))))
              all_goals
                go_wp2_with fail
                go_meet
                unfold AddLeft
                have s3 := hBZ.size
                refine ⟨_, rfl, rfl, ?_, ?_, ?_, ?_, ?_⟩
                · go_grown
                · first | omega | (simp; omega)
                · first | omega | (simp; done) | (simp; omega)
                · first | (go_simp; done) | (simp; done)
                · first | (go_simp; done) | (simp; done)
            case rest =>
              obtain ⟨g, rfl, rfl, hbw, hg1, hg2, hg3, hg4⟩ := hcut
              have k0 := kept z0 hbw hG
              have k1 := kept z1 hbw hG
              have HBc := Lib.hid (below2 HBB.out hbw)
              clear hbw z0 z1 hg1
              obtain ⟨wo, rfl⟩ : ∃ wo : World, wo = wc := ⟨_, rfl⟩
              go_wp2
              go_ret
              exact ⟨rfl, HBc.out⟩
        · have hc0i : (0 : Int) < (c1 : Int) := by omega
          have hc0n : ¬ c1 = 0 := by omega
          have hc0m : ¬ 0 = c1 := by omega
          cases A1 with
          | none =>
            go_upto_region 8 with fail
            go_cut [6, 7] (fun s7 s8 wx => AddLeft wB N D true s7 s8 wx)
            case first =>
              clear z0 z1
              go_region_held3 (fun _ => True) (trivial) (first
                | (go_at_call 31; go_must (refine (CE.out _ _ _).mono ?_; rintro r wX ⟨rfl, hX⟩; have hBX : Below wB.heap.size wB wX := below2 (by go_grown) hX; (try have hyX := Nat.lt_of_lt_of_le hzXa hX.size); obtain ⟨hcX, hfX⟩ := bcell hX; have hzX := hX.size; (try simp at hzX); (try have hzXa := Nat.lt_of_succ_le hzX)))
                | (go_at_call 28; go_must (refine (CA.out _).mono ?_; rintro r wZ ⟨rfl, hZ⟩; have hBZ : Below wB.heap.size wB wZ := below2 (by go_grown) hZ; obtain ⟨hcZ, hfZ⟩ := bcell hZ; have hzZ := hZ.size; (try simp at hzZ); (try have hzZa := Nat.lt_of_succ_le hzZ))))
              all_goals
                go_wp2_with fail
                go_meet
                unfold AddLeft
                have s3 := hBZ.size
                refine ⟨_, rfl, rfl, ?_, ?_, ?_, ?_, ?_⟩
                · go_grown
                · first | omega | (simp; omega)
                · first | omega | (simp; done) | (simp; omega)
                · first | (go_simp; done) | (simp; done)
                · first | (go_simp; done) | (simp; done)
            case rest =>
              obtain ⟨g, rfl, rfl, hbw, hg1, hg2, hg3, hg4⟩ := hcut
              have k0 := kept z0 hbw hG
              have k1 := kept z1 hbw hG
              have HBc := Lib.hid (below2 HBB.out hbw)
              clear hbw z0 z1 hg1
              obtain ⟨wo, rfl⟩ : ∃ wo : World, wo = wc := ⟨_, rfl⟩
              go_wp2
              go_ret
              exact ⟨rfl, HBc.out⟩
          | some ad =>
            go_upto_region 8 with fail
            go_cut [6, 7] (fun s7 s8 wx => AddLeft wB N D true s7 s8 wx)
            case first =>
              clear z0 z1
              go_region_held3 (fun _ => True) (trivial) (first
                | (go_at_call 31; go_must (refine (CE.out _ _ _).mono ?_; rintro r wX ⟨rfl, hX⟩; have hBX : Below wB.heap.size wB wX := below2 (by go_grown) hX; (try have hyX := Nat.lt_of_lt_of_le hzXa hX.size); obtain ⟨hcX, hfX⟩ := bcell hX; have hzX := hX.size; (try simp at hzX); (try have hzXa := Nat.lt_of_succ_le hzX)))
                | (go_at_call 28; go_must (refine (CA.out _).mono ?_; rintro r wZ ⟨rfl, hZ⟩; have hBZ : Below wB.heap.size wB wZ := below2 (by go_grown) hZ; obtain ⟨hcZ, hfZ⟩ := bcell hZ; have hzZ := hZ.size; (try simp at hzZ); (try have hzZa := Nat.lt_of_succ_le hzZ))))
              all_goals
                go_wp2_with fail
                go_meet
                unfold AddLeft
                have s3 := hBZ.size
                refine ⟨_, rfl, rfl, ?_, ?_, ?_, ?_, ?_⟩
                · go_grown
                · first | omega | (simp; omega)
                · first | omega | (simp; done) | (simp; omega)
                · first | (go_simp; done) | (simp; done)
                · first | (go_simp; done) | (simp; done)
            case rest =>
              obtain ⟨g, rfl, rfl, hbw, hg1, hg2, hg3, hg4⟩ := hcut
              have k0 := kept z0 hbw hG
              have k1 := kept z1 hbw hG
              have HBc := Lib.hid (below2 HBB.out hbw)
              clear hbw z0 z1 hg1
              obtain ⟨wo, rfl⟩ : ∃ wo : World, wo = wc := ⟨_, rfl⟩
              go_wp2
              go_ret
              exact ⟨rfl, HBc.out⟩
      · obtain ⟨t, ht⟩ : ∃ t, ts[0]? = some t := at_of (by have := HL.out; omega)
        obtain ⟨b, o, rfl, hbb, g0, g1, g2, g3, g4⟩ := HIB.out.2 0 t ht
        clear ht g0 g1 g2 g3 g4
        have hMc : (M : Int) < (c1 : Int) := by omega
        have hMc' : ¬ M = c1 := by omega
        have hMn : (M : Int) ≤ (n1 : Int) := by omega
        have hMc2 : (M : Int) ≤ (c1 : Int) := by omega
        have hM0 : (0 : Int) ≤ (M : Int) := by omega
        have hnc : (n1 : Int) ≤ (c1 : Int) := by omega
        have CX := Lib.hid (show ∀ W', IsTs W' (some ⟨b, o, none⟩) n1 ts → Calls Try.prog 31 #[.slice (some ⟨b, o, none⟩) M c1] W' (Ret W' (.agg #[.int .i64 XN, .int .i64 XD])) from fun W' h => by rw [← hXN, ← hXD]; exact c_impl_HighShare (some ⟨b, o, none⟩) M c1 (ts.take M) W' (h.take (by omega)) (by omega))
        have CY := Lib.hid (show ∀ W', IsTs W' (some ⟨b, o, none⟩) n1 ts → Calls Try.prog 31 #[.slice (some ⟨b, o + M * 5, none⟩) (n1 - M) (c1 - M)] W' (Ret W' (.agg #[.int .i64 YN, .int .i64 YD])) from fun W' h => by rw [← hYN, ← hYD]; exact c_impl_HighShare (some ⟨b, o + M * 5, none⟩) (n1 - M) (c1 - M) (ts.drop M) W' (h.drop (by omega)) (by omega))
        clear hXN hXD hYN hYD HPa hh1 hh2
        go_upto_region 8 with fail
        go_cut [6, 7] (fun s7 s8 wx => AddLeft wB N D true s7 s8 wx)
        case first =>
          clear z0 z1
          go_region_held3 (fun _ => True) (trivial) (first
            | (go_at_call_of 31 (Value.slice (some { block := b, off := o, spot := none }) M c1); go_must (refine (CX.out _ (HIB.out.below (by go_grown))).mono ?_; rintro r wX ⟨rfl, hX⟩; have hBX : Below wB.heap.size wB wX := below2 (by go_grown) hX; obtain ⟨hcX, hfX⟩ := bcell hX; have hzX := hX.size; (try simp at hzX); (try have hzXa := Nat.lt_of_succ_le hzX); (try have hyX := Nat.lt_of_lt_of_le hzYa hzX)))
            | (go_at_call 31; go_must (refine (CY.out _ (HIB.out.below (by go_grown))).mono ?_; rintro r wY ⟨rfl, hY⟩; have hBY : Below wB.heap.size wB wY := below2 (by go_grown) hY; obtain ⟨hcY, hfY⟩ := bcell hY; have hzY := hY.size; (try simp at hzY); (try have hzYa := Nat.lt_of_succ_le hzY); (try have hyY := Nat.lt_of_lt_of_le hzXa hzY)))
            | (go_at_call 28; go_must (refine (CA.out _).mono ?_; rintro r wZ ⟨rfl, hZ⟩; have hBZ : Below wB.heap.size wB wZ := below2 (by go_grown) hZ; obtain ⟨hcZ, hfZ⟩ := bcell hZ; have hzZ := hZ.size; (try simp at hzZ); (try have hzZa := Nat.lt_of_succ_le hzZ))))
          all_goals
            go_wp2_with fail
            go_meet
            unfold AddLeft
            have s3 := hBZ.size
            refine ⟨_, rfl, rfl, ?_, ?_, ?_, ?_, ?_⟩
            · go_grown
            · first | omega | (simp; omega)
            · first | omega | (simp; done) | (simp; omega)
            · first | (go_simp; done) | (simp; done)
            · first | (go_simp; done) | (simp; done)
        case rest =>
          obtain ⟨g, rfl, rfl, hbw, hg1, hg2, hg3, hg4⟩ := hcut
          have k0 := kept z0 hbw hG
          have k1 := kept z1 hbw hG
          have HBc := Lib.hid (below2 HBB.out hbw)
          clear hbw z0 z1 hg1 hq hq2 hqw
          obtain ⟨wo, rfl⟩ : ∃ wo : World, wo = wc := ⟨_, rfl⟩
          go_wp2
          go_ret
          exact ⟨rfl, HBc.out⟩
end Go.Proofs.Ytajbkjoblpbjlaa
