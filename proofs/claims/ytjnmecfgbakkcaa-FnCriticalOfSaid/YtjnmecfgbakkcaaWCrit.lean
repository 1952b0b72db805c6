/-
  The walks of the laws on drawn critical tasks.
-/
import Derived.Test.YtjnmecfgbakkcaaWHyp
import Derived.Test.YtjnmecfgbakkcaaCrit
import Derived.Test.YtjnmecfgbakkcaaDm
namespace Go.Proofs.Ytjnmecfgbakkcaa
open Go.RowKit
theorem hyN_crit {ts : List Tk} (hv : svB ts = true) : hyN ts % hyN (critL ts) = 0 ∧ 1 ≤ hyN (critL ts) ∧ hyN (critL ts) ≤ hyN ts := by
  rw [hyN_yes hv, hyN_yes (svB_critL hv)]
  obtain ⟨h1, h2, h3⟩ := hyl_sub (us := critL ts) (svB_every hv) (fun t ht => by
    obtain ⟨u, hu, _, rfl⟩ := critL_mem ht
    exact ⟨u, hu, rfl⟩)
  exact ⟨dvd_mod h1, h2, h3⟩
theorem critL_at {ts : List Tk} {k : Nat} {t : Tk} (h : (critL ts)[k]? = some t) : t.crit = true ∧ t.low = t.high := by
  obtain ⟨u, _, hc, rfl⟩ := critL_mem (List.mem_of_getElem? h)
  exact ⟨hc, rfl⟩
set_option maxHeartbeats 1000000 in
theorem w_FnCriticalHyper (A : Option Addr) (n c : Nat) (w : World) (hm : n ≤ maxLen) (hcode : IsBytes w A n c) : Calls Try.prog 9 #[.slice A n c] w (Ret w (.bool true)) := by
  unfold maxLen at hm
  by_cases hn : 1048576 < n
  · go_enter Try.func9, Try.ntmps9
    go_wp2
    go_ret
    exact ⟨rfl, Below.refl _ _⟩
  · have HC := Lib.hid hcode
    clear hcode
    go_enter Try.func9, Try.ntmps9
    go_wp2_with fail
    refine (c_spec_DrawCriticalOf A n c _ HC.out (by omega)).mono ?_
    rintro r w1 ⟨A1, n1, c1, ts, rfl, hn1, hnc1, hb1, hi1⟩
    have HB1 := Lib.hid hb1
    have HI1 := Lib.hid hi1
    have HL := Lib.hid hi1.1
    clear hb1 hi1
    go_wp2_with fail
    refine (c_impl_CriticalOf A1 n1 c1 ts _ HI1.out (by omega)).mono ?_
    rintro r w2 ⟨A2, n2, c2, rfl, hb2, ho2⟩
    have HB2 := Lib.hid (below2 HB1.out hb2)
    have HI2 := Lib.hid (HI1.out.below hb2)
    have HX2 := Lib.hid ho2.isTs
    clear hb2 ho2
    go_wp2_with fail
    refine (c_spec_CriticalOf A1 n1 c1 ts _ HI2.out (by omega)).mono ?_
    rintro r w3 ⟨A3, n3, c3, rfl, hb3, ho3⟩
    have HB3 := Lib.hid (below2 HB2.out hb3)
    have HI3 := Lib.hid (HI2.out.below hb3)
    have HX3 := Lib.hid (HX2.out.below hb3)
    have HY3 := Lib.hid ho3.isTs
    have hn2 : n2 ≤ 6 := by
      have h1 := HX2.out.1
      have h2 := critL_len ts
      have h3 := HL.out
      cases hv : svB ts
      · rw [crA_no hv] at h1; simp at h1; omega
      · rw [crA_yes hv] at h1; omega
    clear hb3 HB1 HI1 HB2 HI2 HX2 ho3
    go_wp2_with fail
    refine (c_dmTasks A2 A3 n2 n3 c2 c3 (crA ts) _ HX3.out HY3.out (by omega)).mono ?_
    rintro r w4 ⟨rfl, hb4⟩
    have HB4 := Lib.hid (below2 HB3.out hb4)
    have HI4 := Lib.hid (HI3.out.below hb4)
    have HX4 := Lib.hid (HX3.out.below hb4)
    clear hb4 HB3 HI3 HX3 HY3
    go_wp2_with fail
    refine (c_impl_SetValid A1 n1 c1 ts _ HI4.out (by omega)).mono ?_
    rintro r w5 ⟨rfl, hb5⟩
    have HB5 := Lib.hid (below2 HB4.out hb5)
    have HI5 := Lib.hid (HI4.out.below hb5)
    have HX5 := Lib.hid (HX4.out.below hb5)
    clear hb5 HB4 HI4 HX4
    cases hv : svB ts
    · go_wp2_with fail
      refine (c_spec_CriticalOf A1 n1 c1 ts _ HI5.out (by omega)).mono ?_
      rintro r w6 ⟨A6, n6, c6, rfl, hb6, ho6⟩
      have HB6 := Lib.hid (below2 HB5.out hb6)
      have HX6 := Lib.hid (HX5.out.below hb6)
      have HY6 := Lib.hid ho6.isTs
      clear hb6 ho6
      go_wp2_with fail
      refine (c_dmTasks A2 A6 n2 n6 c2 c6 (crA ts) _ HX6.out HY6.out (by omega)).mono ?_
      rintro r w7 ⟨rfl, hb7⟩
      have HB7 := Lib.hid (below2 HB6.out hb7)
      clear hb7
      go_wp2
      go_ret
      exact ⟨rfl, HB7.out⟩
    · rw [crA_yes hv] at HX5
      have hN := hyN_bds hv
      have hM := hyN_bds (svB_critL hv)
      have hD := hyN_crit hv
      have HN := Lib.hid hN
      have HM := Lib.hid hM
      have HD := Lib.hid hD
      clear hv hN hM hD
      go_wp2_with fail
      refine (c_impl_HyperOf A1 n1 c1 ts _ HI5.out (by omega)).mono ?_
      rintro r w6 ⟨rfl, hb6⟩
      have HB6 := Lib.hid (below2 HB5.out hb6)
      have HX6 := Lib.hid (HX5.out.below hb6)
      clear hb6
      go_wp2_with fail
      refine (c_impl_HyperOf A2 n2 c2 (critL ts) _ HX6.out (by omega)).mono ?_
      rintro r w7 ⟨rfl, hb7⟩
      have HB7 := Lib.hid (below2 HB6.out hb7)
      clear hb7
      obtain ⟨a1, a2⟩ := HN.out
      obtain ⟨b1, b2⟩ := HM.out
      obtain ⟨d1, d2, d3⟩ := HD.out
      generalize hyN (critL ts) = M at *
      generalize hyN ts = N at *
      have hne : ¬ M = 0 := by omega
      go_wp2
      go_ret
      exact ⟨rfl, HB7.out⟩
set_option maxHeartbeats 1000000 in
theorem w_FnCriticalOf (A : Option Addr) (n c : Nat) (w : World) (hm : n ≤ maxLen) (hcode : IsBytes w A n c) : Calls Try.prog 5 #[.slice A n c] w (Ret w (.bool true)) := by
  unfold maxLen at hm
  by_cases hn : 1048576 < n
  · go_enter Try.func5, Try.ntmps5
    go_wp2
    go_ret
    exact ⟨rfl, Below.refl _ _⟩
  · have HC := Lib.hid hcode
    clear hcode
    go_enter Try.func5, Try.ntmps5
    go_wp2_with fail
    refine (c_spec_DrawCriticalOf A n c _ HC.out (by omega)).mono ?_
    rintro r w1 ⟨A1, n1, c1, ts, rfl, hn1, hnc1, hb1, hi1⟩
    have HB1 := Lib.hid hb1
    have HI1 := Lib.hid hi1
    have HL := Lib.hid hi1.1
    clear hb1 hi1
    go_wp2_with fail
    refine (c_impl_CriticalOf A1 n1 c1 ts _ HI1.out (by omega)).mono ?_
    rintro r w2 ⟨A2, n2, c2, rfl, hb2, ho2⟩
    have HB2 := Lib.hid (below2 HB1.out hb2)
    have HI2 := Lib.hid (HI1.out.below hb2)
    have HX2 := Lib.hid ho2.isTs
    clear hb2 ho2
    go_wp2_with fail
    refine (c_spec_CriticalOf A1 n1 c1 ts _ HI2.out (by omega)).mono ?_
    rintro r w3 ⟨A3, n3, c3, rfl, hb3, ho3⟩
    have HB3 := Lib.hid (below2 HB2.out hb3)
    have HI3 := Lib.hid (HI2.out.below hb3)
    have HX3 := Lib.hid (HX2.out.below hb3)
    have HY3 := Lib.hid ho3.isTs
    have hn2 : n2 ≤ 6 := by
      have h1 := HX2.out.1
      have h2 := critL_len ts
      have h3 := HL.out
      cases hv : svB ts
      · rw [crA_no hv] at h1; simp at h1; omega
      · rw [crA_yes hv] at h1; omega
    clear hb3 HB1 HI1 HB2 HI2 HX2 ho3
    go_wp2_with fail
    refine (c_dmTasks A2 A3 n2 n3 c2 c3 (crA ts) _ HX3.out HY3.out (by omega)).mono ?_
    rintro r w4 ⟨rfl, hb4⟩
    have HB4 := Lib.hid (below2 HB3.out hb4)
    have HI4 := Lib.hid (HI3.out.below hb4)
    have HX4 := Lib.hid (HX3.out.below hb4)
    clear hb4 HB3 HI3 HX3 HY3
    go_wp2_with fail
    refine (c_impl_SetValid A1 n1 c1 ts _ HI4.out (by omega)).mono ?_
    rintro r w5 ⟨rfl, hb5⟩
    have HB5 := Lib.hid (below2 HB4.out hb5)
    have HI5 := Lib.hid (HI4.out.below hb5)
    have HX5 := Lib.hid (HX4.out.below hb5)
    clear hb5 HB4 HI4 HX4
    cases hv : svB ts
    · go_wp2_with fail
      refine (c_spec_CriticalOf A1 n1 c1 ts _ HI5.out (by omega)).mono ?_
      rintro r w6 ⟨A6, n6, c6, rfl, hb6, ho6⟩
      have HB6 := Lib.hid (below2 HB5.out hb6)
      have HX6 := Lib.hid (HX5.out.below hb6)
      have HY6 := Lib.hid ho6.isTs
      clear hb6 ho6
      go_wp2_with fail
      refine (c_dmTasks A2 A6 n2 n6 c2 c6 (crA ts) _ HX6.out HY6.out (by omega)).mono ?_
      rintro r w7 ⟨rfl, hb7⟩
      have HB7 := Lib.hid (below2 HB6.out hb7)
      have hn20 := HX6.out.1
      rw [crA_no hv] at hn20
      simp at hn20
      subst hn20
      clear hb7
      go_wp2
      go_ret
      exact ⟨rfl, HB7.out⟩
    · rw [crA_yes hv] at HX5
      have HCV := Lib.hid (svB_critL hv)
      have HLE := Lib.hid (show n2 ≤ n1 by have := critL_len ts; have := HX5.out.1; have := HL.out; omega)
      have hle := HLE.out
      clear hv
      go_wp2
      go_loopw [5] (fun i wr => ∃ k : Nat, k ≤ n2 ∧ i = .int .i64 k ∧ Below w5.heap.size w5 wr) (fun i _ => n2 - (intOf i).toNat)
      case atStart => exact ⟨0, Nat.zero_le _, rfl, Below.refl _ _⟩
      case round =>
        obtain ⟨k, hk, rfl, hb⟩ := hrel
        have HB := Lib.hid hb
        clear hb
        by_cases hlt : k < n2
        · obtain ⟨t, ht⟩ : ∃ t, (critL ts)[k]? = some t := at_of (by have := HX5.out.1; omega)
          obtain ⟨b, o, rfl, hbb, g0, g1, g2, g3, g4⟩ := (HX5.out.below HB.out).2 k t ht
          obtain ⟨e1, e2⟩ := critL_at ht
          rw [e1] at g4
          rw [e2] at g0
          clear ht g2 g3 e1 e2
          go_wp2_with fail
          go_quiet (fail)
          go_wp2
          go_roundw
          case rel => exact ⟨k + 1, by omega, by go_num, below_drewN HB.out _⟩
          case measure => simp [intOf]; omega
        · have HX7 := Lib.hid (HX5.out.below HB.out)
          have HB7 := Lib.hid (below2 HB5.out HB.out)
          go_wp2_with fail
          refine (c_impl_SetValid A2 n2 c2 (critL ts) _ HX7.out (by omega)).mono ?_
          rintro r w8 ⟨rfl, hb8⟩
          have HX8 := Lib.hid (HX7.out.below hb8)
          have HB8 := Lib.hid (below2 HB7.out hb8)
          rw [HCV.out]
          clear hb8
          go_wp2_with fail
          refine (c_impl_CriticalOf A2 n2 c2 (critL ts) _ HX8.out (by omega)).mono ?_
          rintro r w9 ⟨A9, n9, c9, rfl, hb9, ho9⟩
          rw [crA_yes HCV.out, critL_twice] at ho9
          have HX9 := Lib.hid (HX8.out.below hb9)
          have HB9 := Lib.hid (below2 HB8.out hb9)
          have HY9 := Lib.hid ho9.isTs
          have hn9 : n9 ≤ 6 := by have := ho9.1; have := HX8.out.1; omega
          clear hb9 ho9
          go_wp2_with fail
          refine (c_dmTasks A9 A2 n9 n2 c9 c2 (critL ts) _ HY9.out HX9.out (by omega)).mono ?_
          rintro r w10 ⟨rfl, hb10⟩
          have HB10 := Lib.hid (below2 HB9.out hb10)
          clear hb10
          go_wp2
          go_ret
          exact ⟨rfl, HB10.out⟩
end Go.Proofs.Ytjnmecfgbakkcaa
