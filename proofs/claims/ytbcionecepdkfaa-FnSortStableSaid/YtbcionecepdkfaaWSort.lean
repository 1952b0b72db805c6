/-
  The walks of the laws on drawn sorted tasks.
-/
import Derived.Test.YtbcionecepdkfaaSortI
import Derived.Test.YtbcionecepdkfaaSortS
import Derived.Test.YtbcionecepdkfaaSortWords
import Derived.Test.YtbcionecepdkfaaSets2
import Derived.Test.YtbcionecepdkfaaHyper
import Derived.Test.YtbcionecepdkfaaDm
namespace Go.Proofs.Ytbcionecepdkfaa
open Go.RowKit
theorem srA_len6 {ts : List Tk} {n1 n2 : Nat} (h : (srA ts).length = n2) (hl : ts.length = n1) (hn : n1 ≤ 6) : n2 ≤ 6 := by
  cases hv : svB ts
  · rw [srA_no hv] at h; simp at h; omega
  · rw [srA_yes hv, srt_len] at h; omega
theorem key_ways (t x : Tk) : ((decide (t.due = x.due) && decide (t.every = x.every)) = true ∧ (t.due == x.due) = true ∧ (t.every == x.every) = true) ∨ ((decide (t.due = x.due) && decide (t.every = x.every)) = false ∧ (t.due == x.due) = false) ∨ ((decide (t.due = x.due) && decide (t.every = x.every)) = false ∧ (t.due == x.due) = true ∧ (t.every == x.every) = false) := by
  by_cases h1 : t.due = x.due
  · by_cases h2 : t.every = x.every
    · left; simp [h1, h2]
    · right; right; simp [h1, h2]
  · right; left; simp [h1]
def keyL (x : Tk) (ts : List Tk) : List Tk := ts.filter (fun t => decide (t.due = x.due) && decide (t.every = x.every))
theorem keyL_yes {ts : List Tk} {k : Nat} {t x : Tk} (h : ts[k]? = some t) (hc : (decide (t.due = x.due) && decide (t.every = x.every)) = true) : keyL x (ts.take (k + 1)) = keyL x (ts.take k) ++ [t] := by
  unfold keyL
  rw [List.take_add_one, h, List.filter_append]
  simp only [Option.toList, List.filter_cons, hc, if_true, List.filter_nil]
theorem keyL_no {ts : List Tk} {k : Nat} {t x : Tk} (h : ts[k]? = some t) (hc : (decide (t.due = x.due) && decide (t.every = x.every)) = false) : keyL x (ts.take (k + 1)) = keyL x (ts.take k) := by
  unfold keyL
  rw [List.take_add_one, h, List.filter_append]
  simp [hc]
theorem keyL_len (x : Tk) (ts : List Tk) (k : Nat) : (keyL x (ts.take k)).length ≤ k := by
  have h1 : (keyL x (ts.take k)).length ≤ (ts.take k).length := by unfold keyL; exact List.length_filter_le _ _
  rw [List.length_take] at h1
  omega
set_option maxHeartbeats 2000000 in
theorem w_FnSortDue (A : Option Addr) (n c : Nat) (w : World) (hm : n ≤ maxLen) (hcode : IsBytes w A n c) : Calls Try.prog 6 #[.slice A n c] w (Ret w (.bool true)) := by
  unfold maxLen at hm
  by_cases hn : 1048576 < n
  · go_enter Try.func6, Try.ntmps6
    go_wp2
    go_ret
    exact ⟨rfl, Below.refl _ _⟩
  · have HC := Lib.hid hcode
    clear hcode
    go_enter Try.func6, Try.ntmps6
    go_wp2_with fail
    refine (c_spec_DrawSortDue A n c _ HC.out (by omega)).mono ?_
    rintro r w1 ⟨A1, n1, c1, ts, rfl, hn1, hnc1, hb1, hi1⟩
    have HAF := Lib.hid hnc1.2
    have HB1 := Lib.hid hb1
    have HI1 := Lib.hid hi1
    have HL := Lib.hid hi1.1
    clear hb1 hi1 hnc1
    go_wp2_with fail
    refine (c_impl_SortDue A1 n1 c1 ts _ HI1.out HAF.out (by omega)).mono ?_
    rintro r w2 ⟨A2, n2, c2, rfl, hb2, ho2⟩
    have HB2 := Lib.hid (below2 HB1.out hb2)
    have HI2 := Lib.hid (HI1.out.below hb2)
    have HX2 := Lib.hid ho2.isTs
    have HA2 := Lib.hid ho2.addr
    have hn2 := srA_len6 ho2.1 HL.out hn1
    clear hb2 ho2
    go_wp2_with fail
    refine (c_spec_SortDue A1 n1 c1 ts _ HI2.out (by omega)).mono ?_
    rintro r w3 ⟨A3, n3, c3, rfl, hb3, ho3⟩
    have HB3 := Lib.hid (below2 HB2.out hb3)
    have HI3 := Lib.hid (HI2.out.below hb3)
    have HX3 := Lib.hid (HX2.out.below hb3)
    have HY3 := Lib.hid ho3.isTs
    clear hb3 HB1 HI1 HB2 HI2 HX2 ho3
    go_wp2_with fail
    refine (c_dmTasks A2 A3 n2 n3 c2 c3 (srA ts) _ HX3.out HY3.out (by omega)).mono ?_
    rintro r w4 ⟨rfl, hb4⟩
    have HB4 := Lib.hid (below2 HB3.out hb4)
    have HI4 := Lib.hid (HI3.out.below hb4)
    have HX4 := Lib.hid (HX3.out.below hb4)
    clear hb4 HB3 HI3 HX3 HY3
    go_wp2_with fail
    refine (c_impl_SetValid A1 n1 c1 ts _ HI4.out (by omega)).mono ?_
    rintro r w5 ⟨rfl, hb5⟩
    have HB5 := Lib.hid (below2 HB4.out hb5)
    have HI5 := Lib.hid (HI4.out.below hb5)
    have HX5 := Lib.hid (HX4.out.below hb5)
    clear hb5 HB4 HI4 HX4
    cases hv : svB ts
    · have HV := Lib.hid hv
      clear hv
      go_wp2_with fail
      refine (c_spec_SortDue A1 n1 c1 ts _ HI5.out (by omega)).mono ?_
      rintro r w6 ⟨A6, n6, c6, rfl, hb6, ho6⟩
      have HB6 := Lib.hid (below2 HB5.out hb6)
      have HX6 := Lib.hid (HX5.out.below hb6)
      have HY6 := Lib.hid ho6.isTs
      clear hb6 ho6
      go_wp2_with fail
      refine (c_dmTasks A2 A6 n2 n6 c2 c6 (srA ts) _ HX6.out HY6.out (by omega)).mono ?_
      rintro r w7 ⟨rfl, hb7⟩
      have HB7 := Lib.hid (below2 HB6.out hb7)
      clear hb7
      have hn20 := HX6.out.1
      rw [srA_no HV.out] at hn20
      simp at hn20
      subst hn20
      go_wp2
      go_ret
      exact ⟨rfl, HB7.out⟩
    · rw [srA_yes hv] at HX5
      obtain rfl : n1 = n2 := by have := HX5.out.1; rw [srt_len] at this; have := HL.out; omega
      have HV := Lib.hid hv
      clear hv
      go_wp2
      go_loopw [5] (fun i wr => ∃ m : Nat, (m + 1 ≤ n1 ∨ m = 0) ∧ i = .int .i64 ((m : Int) + 1) ∧ Below w5.heap.size w5 wr) (fun i _ => n1 - (intOf i).toNat)
      case atStart => exact ⟨0, .inr rfl, by go_num, Below.refl _ _⟩
      case round =>
        obtain ⟨m, hmn, rfl, hb⟩ := hrel
        have HB := Lib.hid hb
        clear hb
        by_cases hlt : m + 1 < n1
        · obtain ⟨a, ha⟩ : ∃ t, (srt ts)[m]? = some t := at_of (by have := HX5.out.1; omega)
          obtain ⟨z, hz⟩ : ∃ t, (srt ts)[m + 1]? = some t := at_of (by have := HX5.out.1; omega)
          obtain ⟨b, o, e1, hbb, h0, h1, h2, h3, h4⟩ := (HX5.out.below HB.out).2 m a ha
          obtain ⟨b', o', e2, hbb', g0, g1, g2, g3, g4⟩ := (HX5.out.below HB.out).2 (m + 1) z hz
          subst e1
          injection e2 with e2
          injection e2 with e2 e3
          subst e2 e3
          obtain ⟨k1, k2⟩ := srt_next ha hz
          have hwm : IntKind.i64.wrap (m : Int) = (m : Int) := IntWalk.i64_in _ (by omega)
          have hwm' : IntKind.i64.wrap ((m : Int) + 1 - 1) = (m : Int) := by rw [show (m : Int) + 1 - 1 = m by omega]; exact hwm
          have hm0 : (0 : Int) ≤ (m : Int) := by omega
          have hm1 : (m : Int) < (n1 : Int) := by omega
          have hm2 : (m : Int) + 1 < (n1 : Int) := by omega
          have hm3 : (0 : Int) ≤ (m : Int) + 1 := by omega
          have hm4 : ((m : Int) + 1).toNat = m + 1 := by omega
          have hd : decide (z.due < a.due) = false := decide_eq_false (by omega)
          have hd' : decide (a.due > z.due) = false := decide_eq_false (by omega)
          have WAYS : ((a.due == z.due) = false) ∨ (a.due = z.due ∧ decide (a.every > z.every) = false) := by
            by_cases hc : a.due = z.due
            · exact .inr ⟨hc, decide_eq_false (by have := k2 hc; omega)⟩
            · exact .inl (by rw [beq_eq_false_iff_ne]; exact hc)
          clear ha hz k1 k2 h0 h1 h4 g0 g1 g4
          have HQ := Lib.hid (show m + 1 < n1 from hlt)
          go_wp2_with fail
          rcases WAYS with hq | ⟨hq, hq2⟩
          · go_quiet (fail)
            clear hwm hwm' hm4 hd hd' hq h2 h3 g2 g3
            go_wp2
            go_roundw
            case rel => exact ⟨m + 1, by have := HQ.out; omega, by go_num, below_drewN HB.out _⟩
            case measure => have := HQ.out; simp [intOf]; omega
          · have hq3 : decide (z.every < a.every) = false := hq2
            rw [hq] at h2 hd hd'
            go_quiet (fail)
            clear hwm hwm' hm4 hd hd' hq hq2 hq3 h2 h3 g2 g3
            go_wp2
            go_roundw
            case rel => exact ⟨m + 1, by have := HQ.out; omega, by go_num, below_drewN HB.out _⟩
            case measure => have := HQ.out; simp [intOf]; omega
        · have HX7 := Lib.hid (HX5.out.below HB.out)
          have HI7 := Lib.hid (HI5.out.below HB.out)
          have HB7 := Lib.hid (below2 HB5.out HB.out)
          go_wp2_with fail
          refine (c_impl_SortDue A2 n1 c2 (srt ts) _ HX7.out HA2.out (by omega)).mono ?_
          rintro r w8 ⟨A8, n8, c8, rfl, hb8, ho8⟩
          rw [srA_yes (svB_srt HV.out), srt_id (srt_sorted ts)] at ho8
          have HX8 := Lib.hid (HX7.out.below hb8)
          have HI8 := Lib.hid (HI7.out.below hb8)
          have HB8 := Lib.hid (below2 HB7.out hb8)
          have HY8 := Lib.hid ho8.isTs
          have hn8 : n8 ≤ 6 := by have := ho8.1; have := HX8.out.1; omega
          clear hb8 ho8
          go_wp2_with fail
          refine (c_dmTasks A8 A2 n8 n1 c8 c2 (srt ts) _ HY8.out HX8.out (by omega)).mono ?_
          rintro r w9 ⟨rfl, hb9⟩
          have HX9 := Lib.hid (HX8.out.below hb9)
          have HI9 := Lib.hid (HI8.out.below hb9)
          have HB9 := Lib.hid (below2 HB8.out hb9)
          clear hb9
          go_wp2_with fail
          refine (c_impl_HyperOf A2 n1 c2 (srt ts) _ HX9.out (by omega)).mono ?_
          rintro r w10 ⟨rfl, hb10⟩
          have HI10 := Lib.hid (HI9.out.below hb10)
          have HB10 := Lib.hid (below2 HB9.out hb10)
          clear hb10
          rw [hyN_srt HV.out]
          go_wp2_with fail
          refine (c_impl_HyperOf A1 n1 c1 ts _ HI10.out (by omega)).mono ?_
          rintro r w11 ⟨rfl, hb11⟩
          have HB11 := Lib.hid (below2 HB10.out hb11)
          clear hb11
          go_wp2
          go_ret
          exact ⟨rfl, HB11.out⟩
set_option maxHeartbeats 2000000 in
theorem w_FnCriticalSort (A : Option Addr) (n c : Nat) (w : World) (hm : n ≤ maxLen) (hcode : IsBytes w A n c) : Calls Try.prog 4 #[.slice A n c] w (Ret w (.bool true)) := by
  unfold maxLen at hm
  by_cases hn : 1048576 < n
  · go_enter Try.func4, Try.ntmps4
    go_wp2
    go_ret
    exact ⟨rfl, Below.refl _ _⟩
  · have HC := Lib.hid hcode
    clear hcode
    go_enter Try.func4, Try.ntmps4
    go_wp2_with fail
    refine (c_spec_DrawCriticalOf A n c _ HC.out (by omega)).mono ?_
    rintro r w1 ⟨A1, n1, c1, ts, rfl, hn1, hnc1, hb1, hi1⟩
    have HAF := Lib.hid hnc1.2
    have HB1 := Lib.hid hb1
    have HI1 := Lib.hid hi1
    have HL := Lib.hid hi1.1
    clear hb1 hi1 hnc1
    go_wp2_with fail
    refine (c_impl_CriticalOf A1 n1 c1 ts _ HI1.out (by omega)).mono ?_
    rintro r w2 ⟨A2, n2, c2, rfl, hb2, ho2⟩
    have HB2 := Lib.hid (below2 HB1.out hb2)
    have HI2 := Lib.hid (HI1.out.below hb2)
    have HX2 := Lib.hid ho2.isTs
    have hn2 : n2 ≤ 6 := by
      have h1 := ho2.1
      have h2 := critL_len ts
      have h3 := HL.out
      cases hv : svB ts
      · rw [crA_no hv] at h1; simp at h1; omega
      · rw [crA_yes hv] at h1; omega
    clear hb2 ho2
    go_wp2_with fail
    refine (c_spec_CriticalOf A1 n1 c1 ts _ HI2.out (by omega)).mono ?_
    rintro r w3 ⟨A3, n3, c3, rfl, hb3, ho3⟩
    have HB3 := Lib.hid (below2 HB2.out hb3)
    have HI3 := Lib.hid (HI2.out.below hb3)
    have HX3 := Lib.hid (HX2.out.below hb3)
    have HY3 := Lib.hid ho3.isTs
    clear hb3 HB1 HI1 HB2 HI2 HX2 ho3
    go_wp2_with fail
    refine (c_dmTasks A2 A3 n2 n3 c2 c3 (crA ts) _ HX3.out HY3.out (by omega)).mono ?_
    rintro r w4 ⟨rfl, hb4⟩
    have HB4 := Lib.hid (below2 HB3.out hb4)
    have HI4 := Lib.hid (HI3.out.below hb4)
    have HX4 := Lib.hid (HX3.out.below hb4)
    clear hb4 HB3 HI3 HX3 HY3
    go_wp2_with fail
    refine (c_impl_SetValid A1 n1 c1 ts _ HI4.out (by omega)).mono ?_
    rintro r w5 ⟨rfl, hb5⟩
    have HB5 := Lib.hid (below2 HB4.out hb5)
    have HI5 := Lib.hid (HI4.out.below hb5)
    have HX5 := Lib.hid (HX4.out.below hb5)
    clear hb5 HB4 HI4 HX4
    cases hv : svB ts
    · go_wp2_with fail
      refine (c_spec_CriticalOf A1 n1 c1 ts _ HI5.out (by omega)).mono ?_
      rintro r w6 ⟨A6, n6, c6, rfl, hb6, ho6⟩
      have HB6 := Lib.hid (below2 HB5.out hb6)
      have HX6 := Lib.hid (HX5.out.below hb6)
      have HY6 := Lib.hid ho6.isTs
      clear hb6 ho6
      go_wp2_with fail
      refine (c_dmTasks A2 A6 n2 n6 c2 c6 (crA ts) _ HX6.out HY6.out (by omega)).mono ?_
      rintro r w7 ⟨rfl, hb7⟩
      have HB7 := Lib.hid (below2 HB6.out hb7)
      clear hb7
      go_wp2
      go_ret
      exact ⟨rfl, HB7.out⟩
    · rw [crA_yes hv] at HX5
      have HV := Lib.hid hv
      have HCN := Lib.hid (show n2 = ncrit ts by rw [← critL_count]; exact HX5.out.1.symm)
      clear hv
      go_wp2
      go_loopw [5, 6] (fun u i wr => ∃ k q : Nat, k ≤ n1 ∧ q ≤ k ∧ i = .int .i64 k ∧ u = .int .i64 q ∧ Hid (q = ncrit (ts.take k)) ∧ Below w5.heap.size w5 wr) (fun _ i _ => n1 - (intOf i).toNat)
      case atStart => exact ⟨0, 0, Nat.zero_le _, Nat.le_refl _, rfl, rfl, Lib.hid (by simp [ncrit]), Below.refl _ _⟩
      case round =>
        obtain ⟨k, q, hk, hqk, rfl, rfl, hq, hb⟩ := hrel
        have HB := Lib.hid hb
        clear hb
        by_cases hlt : k < n1
        · obtain ⟨t, ht⟩ : ∃ t, ts[k]? = some t := at_of (by have := HI5.out.1; omega)
          obtain ⟨b, o, rfl, hbb, g0, g1, g2, g3, g4⟩ := (HI5.out.below HB.out).2 k t ht
          have HN := Lib.hid (ncrit_take ht)
          clear ht g0 g1 g2 g3
          cases hc : t.crit
          · rw [hc] at g4 HN
            go_wp2
            go_roundw
            case rel => exact ⟨k + 1, q, by omega, by omega, by go_num, rfl, Lib.hid (by rw [HN.out, hq.out]; simp), HB.out⟩
            case measure => simp [intOf]; omega
          · rw [hc] at g4 HN
            go_wp2
            go_roundw
            case rel => exact ⟨k + 1, q + 1, by omega, by omega, by go_num, by go_num, Lib.hid (by rw [HN.out, hq.out]; simp), HB.out⟩
            case measure => simp [intOf]; omega
        · obtain rfl : n2 = q := by
            have h1 := HCN.out
            have h2 := hq.out
            rw [List.take_of_length_le (by have := HL.out; omega)] at h2
            omega
          have HI7 := Lib.hid (HI5.out.below HB.out)
          have HB7 := Lib.hid (below2 HB5.out HB.out)
          clear hq hqk
          go_wp2_with fail
          refine (c_impl_SortDue A1 n1 c1 ts _ HI7.out HAF.out (by omega)).mono ?_
          rintro r w8 ⟨A8, n8, c8, rfl, hb8, ho8⟩
          rw [srA_yes HV.out] at ho8
          have HX8 := Lib.hid ho8.isTs
          have HB8 := Lib.hid (below2 HB7.out hb8)
          have hn8 : n8 ≤ 6 := by have := ho8.1; rw [srt_len] at this; have := HL.out; omega
          clear hb8 ho8
          go_wp2_with fail
          refine (c_impl_CriticalOf A8 n8 c8 (srt ts) _ HX8.out (by omega)).mono ?_
          rintro r w9 ⟨A9, n9, c9, rfl, hb9, ho9⟩
          rw [crA_yes (svB_srt HV.out)] at ho9
          have HB9 := Lib.hid (below2 HB8.out hb9)
          obtain rfl : n2 = n9 := by have := ho9.1; rw [critL_count, ncrit_srt] at this; have := HCN.out; omega
          clear hb9 ho9
          go_wp2
          go_ret
          exact ⟨rfl, HB9.out⟩
end Go.Proofs.Ytbcionecepdkfaa
