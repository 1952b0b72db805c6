/-
  The walks of the laws on drawn responses.
-/
import Derived.Test.YtajbkjoblpbjlaaSets2
import Derived.Test.YtajbkjoblpbjlaaRespS
namespace Go.Proofs.Ytajbkjoblpbjlaa
open Go.RowKit
theorem rsp_fix {ts : List Tk} {k : Nat} {t : Tk} {r : Int} (h : rspL ts k = some r) (ht : ts[k]? = some t) : fLow ts k t.low r = r ∧ ∀ x, t.low ≤ x → x < r → x < fLow ts k t.low x := by
  have hp := rspL_in h
  obtain ⟨hv, k', t', e, _, ht', hok⟩ := plB_at hp
  have hs := ok_small (svB_ok hv ht)
  rw [rspL_yes hp ht] at h
  exact ⟨lfix_fix (fLow_up hv k (low := t.low) (by omega) (by omega)) h, (lfix_out h).2.2.2⟩
theorem take_first {ts : List Tk} {k : Nat} {t0 : Tk} (h0 : ts[0]? = some t0) (hk : 0 < k) : ts.take k = t0 :: (ts.drop 1).take (k - 1) := by
  obtain ⟨m, rfl⟩ : ∃ m, k = m + 1 := ⟨k - 1, by omega⟩
  match ts, h0 with
  | t :: us, h0 =>
    simp at h0
    subst h0
    simp
/-- With one task less before it a task responds no later. -/
theorem rsp_more {ts : List Tk} {k : Nat} {r : Int} {t0 : Tk} (h : rspL ts k = some r) (hk : 0 < k) (h0 : ts[0]? = some t0) : ∃ m, rspL (ts.drop 1) ((k : Int) - 1) = some m ∧ m ≤ r - t0.low ∧ 1 ≤ t0.low ∧ t0.low ≤ 20 := by
  obtain ⟨hv, k', t, e, hkl, ht, hok, hl1, hl2⟩ := rspL_some h
  obtain rfl : k = k' := by omega
  have hs := ok_small hok
  have hs0 := ok_small (svB_ok hv h0)
  have hvd : svB (ts.drop 1) = true := by
    have hl := svB_len hv
    refine svB_of (by rw [List.length_drop]; omega) fun j x hx => ?_
    rw [List.getElem?_drop] at hx
    exact svB_ok hv hx
  have hp : plB (ts.drop 1) ((k - 1 : Nat) : Int) = true := plB_of hvd (by rw [List.length_drop]; omega)
  have ht' : (ts.drop 1)[k - 1]? = some t := by rw [List.getElem?_drop, show 1 + (k - 1) = k by omega]; exact ht
  have e1 : (k : Int) - 1 = ((k - 1 : Nat) : Int) := by omega
  rw [e1, rspL_yes hp ht']
  obtain ⟨hf, _⟩ := rsp_fix h ht
  have hfe : ∀ x, fLow ts k t.low x = t0.dm x false + fLow (ts.drop 1) (k - 1) t.low x := by
    intro x
    unfold fLow
    rw [take_first h0 hk, dsum_cons, Int.add_comm t.low, dsum_shift]
  have hu := fLow_up hvd (k - 1) (low := t.low) (by omega) (by omega)
  have hd := dm_pos (svB_ok hv h0) false (x := r) (by omega)
  have hfr := hfe r
  rw [hf] at hfr
  have hlow : t.low ≤ fLow (ts.drop 1) (k - 1) t.low r := Int.le_trans hu.1 (hu.2 _ _ (Int.le_refl _) hl1)
  have hx1 : t.low ≤ r - t0.low := by omega
  have hx2 : fLow (ts.drop 1) (k - 1) t.low (r - t0.low) ≤ r - t0.low := by
    have := hu.2 (r - t0.low) r hx1 (by omega)
    omega
  obtain ⟨m, hm1, hm2⟩ := lfix_le (m := t.due) hx1 (by omega) hx2
  exact ⟨m, hm1, hm2, hs0.1.1, hs0.1.2⟩
set_option maxHeartbeats 2000000 in
theorem w_FnResponseLow (A : Option Addr) (n c : Nat) (w : World) (hm : n ≤ maxLen) (hcode : IsBytes w A n c) : Calls Try.prog 8 #[.slice A n c] w (Ret w (.bool true)) := by
  unfold maxLen at hm
  by_cases hn : 1048576 < n
  · go_enter Try.func8, Try.ntmps8
    go_wp2
    go_ret
    exact ⟨rfl, Below.refl _ _⟩
  · have HC := Lib.hid hcode
    clear hcode
    go_enter Try.func8, Try.ntmps8
    go_wp2_with fail
    refine (c_DrawResponseLow A n c _ HC.out (by omega)).mono ?_
    rintro r w1 ⟨A1, n1, c1, ts, a, rfl, hn1, hnc1, ha0, ha1, hb1, hi1⟩
    have HB1 := Lib.hid hb1
    have HI1 := Lib.hid hi1
    have HL := Lib.hid hi1.1
    clear hb1 hi1
    go_wp2_with fail
    refine (c_impl_ResponseLow A1 n1 c1 ts a _ HI1.out (by omega) hnc1).mono ?_
    rintro r w2 ⟨rfl, hb2⟩
    have HB2 := Lib.hid (below2 HB1.out hb2)
    have HI2 := Lib.hid (HI1.out.below hb2)
    clear hb2
    go_wp2_with fail
    refine (c_spec_ResponseLow A1 n1 c1 ts a _ HI2.out (by omega)).mono ?_
    rintro r w3 ⟨rfl, hb3⟩
    have HB3 := Lib.hid (below2 HB2.out hb3)
    have HI3 := Lib.hid (HI2.out.below hb3)
    clear hb3 HB1 HI1 HB2 HI2
    cases hr : rspL ts a with
    | none =>
      clear hr
      go_wp2
      go_ret
      exact ⟨rfl, HB3.out⟩
    | some r0 =>
      rw [show ansN (some r0) = r0 from rfl, show ansB (some r0) = true from rfl]
      obtain ⟨hv, k, t, rfl, hk, ht, hok, hl1, hl2⟩ := rspL_some hr
      have hs := ok_small hok
      have l1 := hs.1.1
      have l2 := hs.1.2
      have d2 := hs.2.2.1.2
      have hl5 := svB_len hv
      have hkn : k < n1 := by have := HL.out; omega
      have HR := Lib.hid hr
      have HV := Lib.hid hv
      have HT := Lib.hid ht
      have HF := Lib.hid (rsp_fix hr ht).1
      obtain ⟨b, o, rfl, hbb, g0, g1, g2, g3, g4⟩ := HI3.out.2 k t ht
      clear hr hv ht hok hs g1 g3 g4
      go_wp2
      clear g0 g2
      go_loopw [9, 10] (fun u i wr => ∃ j : Nat, j ≤ k ∧ i = .int .i64 j ∧ u = .int .i64 (dsum (fun t => t.dm r0 false) t.low (ts.take j)) ∧ Below w3.heap.size w3 wr) (fun _ i _ => k - (intOf i).toNat)
      case atStart => exact ⟨0, Nat.zero_le _, rfl, rfl, Below.refl _ _⟩
      case round =>
          obtain ⟨j, hj, rfl, rfl, hb⟩ := hrel
          have HB := Lib.hid hb
          clear hb
          by_cases hlt : j < k
          · obtain ⟨t', ht'⟩ : ∃ t, ts[j]? = some t := at_of (by have := HL.out; omega)
            obtain ⟨b', o', e', hbb', g0, g1, g2, g3, g4⟩ := (HI3.out.below HB.out).2 j t' ht'
            injection e' with e'
            injection e' with e1 e2
            subst e1 e2
            have hS := fLow_bd HV.out (low := t.low) (by omega) (show 0 ≤ r0 by omega) (show r0 ≤ 1000000000 by omega) j
            have hsn := Lib.hid (dsum_take (g := fun t => t.dm r0 false) (a := t.low) ht')
            have hd := dm_bd (svB_ok HV.out ht') (x := r0) false (by omega) (by omega)
            have HDo := Lib.hid (do_true (d := t'.due) (c := t'.crit) (svB_ok HV.out ht') (show 0 ≤ r0 by omega) (show r0 ≤ 1000000 by omega) false)
            rw [← dm_eq] at hd
            have s1 := hS.1
            have s2 := hS.2
            have s3 := hd.1
            have s4 := hd.2
            clear hS hd ht'
            generalize hG : dsum (fun t => t.dm r0 false) t.low (ts.take j) = S at *
            have HG := Lib.hid hG
            clear hG
            go_wp2_with fail
            refine (c_impl_DemandOf _ _ _ _ _ _ _ _).mono ?_
            rintro r w4 ⟨rfl, hbw⟩
            rw [HDo.out.1, HDo.out.2]
            have HW := Lib.hid (below2 HB.out hbw)
            clear hbw g0 g1 g2 g3 g4
            go_wp2
            go_roundw
            case rel => exact ⟨j + 1, by omega, by go_num, by rw [hsn.out]; rfl, HW.out⟩
            case measure => simp [intOf]; omega
          · have HB4 := Lib.hid (below2 HB3.out HB.out)
            obtain ⟨b', o', e', hbb', g0, g1, g2, g3, g4⟩ := (HI3.out.below HB.out).2 k t HT.out
            injection e' with e'
            injection e' with e1 e2
            subst e1 e2
            have HJ := Lib.hid (show dsum (fun t => t.dm r0 false) t.low (ts.take j) = r0 by rw [show j = k by omega]; exact HF.out)
            rw [HJ.out]
            clear g1 g3 g4
            go_wp2
            go_ret
            exact ⟨rfl, HB4.out⟩
set_option maxHeartbeats 2000000 in
theorem w_FnResponseLess (A : Option Addr) (n c : Nat) (w : World) (hm : n ≤ maxLen) (hcode : IsBytes w A n c) : Calls Try.prog 7 #[.slice A n c] w (Ret w (.bool true)) := by
  unfold maxLen at hm
  by_cases hn : 1048576 < n
  · go_enter Try.func7, Try.ntmps7
    go_wp2
    go_ret
    exact ⟨rfl, Below.refl _ _⟩
  · have HC := Lib.hid hcode
    clear hcode
    go_enter Try.func7, Try.ntmps7
    go_wp2_with fail
    refine (c_DrawResponseLow A n c _ HC.out (by omega)).mono ?_
    rintro r w1 ⟨A1, n1, c1, ts, a, rfl, hn1, hnc1, ha0, ha1, hb1, hi1⟩
    have HB1 := Lib.hid hb1
    have HI1 := Lib.hid hi1
    have HL := Lib.hid hi1.1
    clear hb1 hi1
    go_wp2_with fail
    refine (c_impl_ResponseLow A1 n1 c1 ts a _ HI1.out (by omega) hnc1).mono ?_
    rintro r w2 ⟨rfl, hb2⟩
    have HB2 := Lib.hid (below2 HB1.out hb2)
    have HI2 := Lib.hid (HI1.out.below hb2)
    clear hb2
    go_wp2_with fail
    refine (c_spec_ResponseLow A1 n1 c1 ts a _ HI2.out (by omega)).mono ?_
    rintro r w3 ⟨rfl, hb3⟩
    have HB3 := Lib.hid (below2 HB2.out hb3)
    have HI3 := Lib.hid (HI2.out.below hb3)
    clear hb3 HB1 HI1 HB2 HI2
    cases hr : rspL ts a with
    | none =>
      clear hr
      go_wp2
      go_ret
      exact ⟨rfl, HB3.out⟩
    | some r0 =>
      rw [show ansN (some r0) = r0 from rfl, show ansB (some r0) = true from rfl]
      obtain ⟨hv, k, t, rfl, hk, ht, hok, hl1, hl2⟩ := rspL_some hr
      have hs := ok_small hok
      have l1 := hs.1.1
      have l2 := hs.1.2
      have d2 := hs.2.2.1.2
      have hl5 := svB_len hv
      have hkn : k < n1 := by have := HL.out; omega
      have HR := Lib.hid hr
      have HV := Lib.hid hv
      have HT := Lib.hid ht
      have HF := Lib.hid (rsp_fix hr ht).2
      obtain ⟨b, o, rfl, hbb, g0, g1, g2, g3, g4⟩ := HI3.out.2 k t ht
      clear hr hv ht hok hs g1 g2 g3 g4
      go_wp2
      clear g0
      go_loopw [9] (fun u wr => ∃ x : Int, t.low ≤ x ∧ x ≤ r0 ∧ u = .int .i64 x ∧ Below w3.heap.size w3 wr) (fun u _ => (r0 - intOf u).toNat)
      case atStart => exact ⟨t.low, by omega, hl1, rfl, Below.refl _ _⟩
      case round =>
        obtain ⟨x, hx0, hx1, rfl, hbx⟩ := hrel
        have HBX := Lib.hid hbx
        obtain ⟨b', o', e', hbb', g0, g1, g2, g3, g4⟩ := (HI3.out.below hbx).2 k t HT.out
        injection e' with e'
        injection e' with e1 e2
        subst e1 e2
        clear hbx g1 g2 g3 g4
        obtain ⟨wo, rfl⟩ : ∃ wo : World, wo = wr := ⟨_, rfl⟩
        by_cases hxr : x < r0
        · go_wp2
          clear g0
          go_loopw [10, 11] (fun u i wr => ∃ j : Nat, j ≤ k ∧ i = .int .i64 j ∧ u = .int .i64 (dsum (fun t => t.dm x false) t.low (ts.take j)) ∧ Below w3.heap.size w3 wr) (fun _ i _ => k - (intOf i).toNat)
          case atStart => exact ⟨0, Nat.zero_le _, rfl, rfl, HBX.out⟩
          case round =>
            obtain ⟨j, hj, rfl, rfl, hb⟩ := hrel
            have HB := Lib.hid hb
            clear hb
            by_cases hlt : j < k
            · obtain ⟨t', ht'⟩ : ∃ t, ts[j]? = some t := at_of (by have := HL.out; omega)
              obtain ⟨b', o', e', hbb', g0, g1, g2, g3, g4⟩ := (HI3.out.below HB.out).2 j t' ht'
              injection e' with e'
              injection e' with e1 e2
              subst e1 e2
              have hS := fLow_bd HV.out (low := t.low) (by omega) (show 0 ≤ x by omega) (show x ≤ 1000000000 by omega) j
              have hsn := Lib.hid (dsum_take (g := fun t => t.dm x false) (a := t.low) ht')
              have hd := dm_bd (svB_ok HV.out ht') (x := x) false (by omega) (by omega)
              have HDo := Lib.hid (do_true (d := t'.due) (c := t'.crit) (svB_ok HV.out ht') (show 0 ≤ x by omega) (show x ≤ 1000000 by omega) false)
              rw [← dm_eq] at hd
              have s1 := hS.1
              have s2 := hS.2
              have s3 := hd.1
              have s4 := hd.2
              clear hS hd ht'
              generalize hG : dsum (fun t => t.dm x false) t.low (ts.take j) = S at *
              have HG := Lib.hid hG
              clear hG
              go_wp2_with fail
              refine (c_impl_DemandOf _ _ _ _ _ _ _ _).mono ?_
              rintro r w4 ⟨rfl, hbw⟩
              rw [HDo.out.1, HDo.out.2]
              have HW := Lib.hid (below2 HB.out hbw)
              clear hbw g0 g1 g2 g3 g4
              go_wp2
              go_roundw
              case rel => exact ⟨j + 1, by omega, by go_num, by rw [hsn.out]; rfl, HW.out⟩
              case measure => simp [intOf]; omega
            · have HJ := Lib.hid (show dsum (fun t => t.dm x false) t.low (ts.take j) = fLow ts k t.low x by rw [show j = k by omega]; rfl)
              have hgt := HF.out x hx0 hxr
              rw [HJ.out]
              generalize fLow ts k t.low x = F at *
              go_wp2
              go_roundw
              case rel => exact ⟨x + 1, by omega, by omega, rfl, HB.out⟩
              case measure => simp [intOf]; omega
        · go_wp2
          go_ret
          exact ⟨rfl, below2 HB3.out HBX.out⟩
set_option maxHeartbeats 2000000 in
theorem w_FnResponseMore (A : Option Addr) (n c : Nat) (w : World) (hm : n ≤ maxLen) (hcode : IsBytes w A n c) : Calls Try.prog 5 #[.slice A n c] w (Ret w (.bool true)) := by
  unfold maxLen at hm
  by_cases hn : 1048576 < n
  · go_enter Try.func5, Try.ntmps5
    go_wp2
    go_ret
    exact ⟨rfl, Below.refl _ _⟩
  · have HC := Lib.hid hcode
    clear hcode
    go_enter Try.func5, Try.ntmps5
    go_wp2_with fail
    refine (c_DrawResponseLow A n c _ HC.out (by omega)).mono ?_
    rintro r w1 ⟨A1, n1, c1, ts, a, rfl, hn1, hnc1, ha0, ha1, hb1, hi1⟩
    have HB1 := Lib.hid hb1
    have HI1 := Lib.hid hi1
    have HL := Lib.hid hi1.1
    clear hb1 hi1
    go_wp2_with fail
    refine (c_impl_ResponseLow A1 n1 c1 ts a _ HI1.out (by omega) hnc1).mono ?_
    rintro r w2 ⟨rfl, hb2⟩
    have HB2 := Lib.hid (below2 HB1.out hb2)
    have HI2 := Lib.hid (HI1.out.below hb2)
    clear hb2
    go_wp2_with fail
    refine (c_spec_ResponseLow A1 n1 c1 ts a _ HI2.out (by omega)).mono ?_
    rintro r w3 ⟨rfl, hb3⟩
    have HB3 := Lib.hid (below2 HB2.out hb3)
    have HI3 := Lib.hid (HI2.out.below hb3)
    clear hb3 HB1 HI1 HB2 HI2
    cases hr : rspL ts a with
    | none =>
      clear hr
      go_wp2
      go_ret
      exact ⟨rfl, HB3.out⟩
    | some r0 =>
      rw [show ansN (some r0) = r0 from rfl, show ansB (some r0) = true from rfl]
      obtain ⟨hv, k, t, rfl, hk, ht, hok, hl1, hl2⟩ := rspL_some hr
      have hs := ok_small hok
      have l1 := hs.1.1
      have l2 := hs.1.2
      have d2 := hs.2.2.1.2
      have hl5 := svB_len hv
      have hkn : k < n1 := by have := HL.out; omega
      have HR := Lib.hid hr
      have HV := Lib.hid hv
      have HT := Lib.hid ht
      by_cases hk0 : k = 0
      · subst hk0
        clear hr hv ht hok hs
        go_wp2
        go_ret
        exact ⟨rfl, HB3.out⟩
      · have hkb : ((k : Int) == 0) = false := by rw [beq_eq_false_iff_ne]; omega
        obtain ⟨t0, ht0⟩ : ∃ t, ts[0]? = some t := at_of (by omega)
        obtain ⟨m, hm1, hm2, hm3, hm4⟩ := rsp_more hr (by omega) ht0
        obtain ⟨b, o, rfl, hbb, g0, g1, g2, g3, g4⟩ := HI3.out.2 0 t0 ht0
        have HT0 := Lib.hid ht0
        have HM := Lib.hid hm1
        have HID := Lib.hid (HI3.out.drop (k := 1) (by omega))
        have hc1 : ¬ (c1 : Int) = 1 := by omega
        have hc1' : ¬ c1 = 1 := by omega
        have hc2 : (1 : Int) < (c1 : Int) := by omega
        clear hr hv ht hok hs ht0 hm1 g0 g1 g2 g3 g4
        go_wp2_with fail
        refine (c_impl_ResponseLow _ _ _ (ts.drop 1) _ _ HID.out (by omega) (by omega)).mono ?_
        rintro r w4 ⟨rfl, hb4⟩
        have HB4 := Lib.hid (below2 HB3.out hb4)
        obtain ⟨b', o', e', hbb', g0, g1, g2, g3, g4⟩ := (HI3.out.below hb4).2 0 t0 HT0.out
        injection e' with e'
        injection e' with e1 e2
        subst e1 e2
        rw [HM.out, show ansN (some m) = m from rfl, show ansB (some m) = true from rfl]
        simp only [Nat.zero_mul, Nat.add_zero] at g0
        clear hb4 g1 g2 g3 g4
        go_wp2
        go_ret
        exact ⟨rfl, HB4.out⟩
end Go.Proofs.Ytajbkjoblpbjlaa
