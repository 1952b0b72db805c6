/-
  The walks of the laws on the time after which drawn tasks begin together again.
-/
import Derived.Test.YtjnmecfgbakkcaaHyper
import Derived.Test.YtjnmecfgbakkcaaSets
import Derived.Test.YtjnmecfgbakkcaaMathH2
namespace Go.Proofs.Ytjnmecfgbakkcaa
open Go.RowKit
theorem hyN_no {ts : List Tk} (h : svB ts = false) : hyN ts = 0 := if_neg (by simp [h])
theorem hyN_yes {ts : List Tk} (h : svB ts = true) : hyN ts = hyl ts := if_pos h
theorem hyN_bds {ts : List Tk} (h : svB ts = true) : 1 ≤ hyN ts ∧ hyN ts ≤ 3200000 := by
  rw [hyN_yes h]
  have hb := hyl_bd h ts.length (Nat.le_refl _)
  have hp := pow_small (svB_len h)
  rw [List.take_of_length_le (Nat.le_refl _)] at hb
  omega
theorem hyN_each {ts : List Tk} (h : svB ts = true) {k : Nat} {t : Tk} (ht : ts[k]? = some t) : hyN ts % t.every = 0 ∧ t.every ≤ hyN ts ∧ 1 ≤ t.every ∧ t.every ≤ 20 := by
  have hm := List.mem_of_getElem? ht
  have hd := hyl_div (svB_every h) hm
  have hb := hyN_bds h
  have he := svB_every h t hm
  rw [hyN_yes h] at hb ⊢
  exact ⟨dvd_mod hd, Int.le_of_dvd (by omega) hd, he.1, he.2⟩
theorem svB_drop {ts : List Tk} (hv : svB ts = true) (k : Nat) : svB (ts.drop k) = true := by
  have hl := svB_len hv
  refine svB_of (by rw [List.length_drop]; omega) fun j t ht => ?_
  rw [List.getElem?_drop] at ht
  exact svB_ok hv ht
theorem hyN_drop {ts : List Tk} (hv : svB ts = true) (k : Nat) : hyN ts % hyN (ts.drop k) = 0 ∧ 1 ≤ hyN (ts.drop k) := by
  rw [hyN_yes hv, hyN_yes (svB_drop hv k)]
  obtain ⟨h1, h2, _⟩ := hyl_sub (us := ts.drop k) (svB_every hv) (fun t ht => ⟨t, List.mem_of_mem_drop ht, rfl⟩)
  exact ⟨dvd_mod h1, h2⟩
theorem beq_dec (a b : Int) : (a == b) = decide (a = b) := by rw [Bool.eq_iff_iff]; simp
/-- Whether all periods divide k. -/
def allB (k : Int) (ts : List Tk) : Bool := ts.all fun t => decide (k % t.every = 0)
theorem allB_snoc {k : Int} {ts : List Tk} {i : Nat} {t : Tk} (h : ts[i]? = some t) : allB k (ts.take (i + 1)) = (allB k (ts.take i) && decide (k % t.every = 0)) := by
  unfold allB
  rw [List.take_add_one, h, List.all_append]
  simp
theorem allB_not {k : Int} {ts : List Tk} (hv : svB ts = true) (h1 : 1 ≤ k) (h2 : k < hyN ts) : allB k ts = false := by
  rw [hyN_yes hv] at h2
  obtain ⟨t, ht, hne⟩ := hyl_least (svB_every hv) h1 h2
  unfold allB
  rw [List.all_eq_false]
  exact ⟨t, ht, by simpa using hne⟩
set_option maxHeartbeats 1000000 in
theorem w_FnHyperOf (A : Option Addr) (n c : Nat) (w : World) (hm : n ≤ maxLen) (hcode : IsBytes w A n c) : Calls Try.prog 8 #[.slice A n c] w (Ret w (.bool true)) := by
  unfold maxLen at hm
  by_cases hn : 1048576 < n
  · go_enter Try.func8, Try.ntmps8
    go_wp2
    go_ret
    exact ⟨rfl, Below.refl _ _⟩
  · have HC := Lib.hid hcode
    clear hcode
    go_enter Try.func8, Try.ntmps8
    go_wp2_with fail
    refine (c_spec_DrawHyperOf A n c _ HC.out (by omega)).mono ?_
    rintro r w1 ⟨A1, n1, c1, ts, rfl, hn1, hnc1, hb1, hi1⟩
    have HB1 := Lib.hid hb1
    have HI1 := Lib.hid hi1
    have HL := Lib.hid hi1.1
    clear hb1 hi1
    go_wp2_with fail
    refine (c_impl_HyperOf A1 n1 c1 ts _ HI1.out (by omega)).mono ?_
    rintro r w2 ⟨rfl, hb2⟩
    have HB2 := Lib.hid (below2 HB1.out hb2)
    have HI2 := Lib.hid (HI1.out.below hb2)
    clear hb2
    go_wp2_with fail
    refine (c_spec_HyperOf A1 n1 c1 ts _ HI2.out (by omega)).mono ?_
    rintro r w3 ⟨rfl, hb3⟩
    have HB3 := Lib.hid (below2 HB2.out hb3)
    have HI3 := Lib.hid (HI2.out.below hb3)
    clear hb3 HB1 HI1 HB2 HI2
    go_wp2_with fail
    refine (c_impl_SetValid A1 n1 c1 ts _ HI3.out (by omega)).mono ?_
    rintro r w4 ⟨rfl, hb4⟩
    have HB4 := Lib.hid (below2 HB3.out hb4)
    have HI4 := Lib.hid (HI3.out.below hb4)
    clear hb4 HB3 HI3
    cases hv : svB ts
    · have HE := Lib.hid (hyN_no hv)
      clear hv
      go_wp2_with fail
      refine (c_spec_HyperOf A1 n1 c1 ts _ HI4.out (by omega)).mono ?_
      rintro r w5 ⟨rfl, hb5⟩
      have HB5 := Lib.hid (below2 HB4.out hb5)
      clear hb5
      rw [HE.out]
      go_wp2
      go_ret
      exact ⟨rfl, HB5.out⟩
    · have hN := hyN_bds hv
      have HEach := Lib.hid (fun (k : Nat) (t : Tk) (ht : ts[k]? = some t) => hyN_each hv ht)
      generalize hyN ts = N at *
      obtain ⟨N1, N2⟩ := hN
      clear hv
      go_wp2
      go_loopw [5] (fun i wr => ∃ k : Nat, k ≤ n1 ∧ i = .int .i64 k ∧ w4 = wr) (fun i _ => n1 - (intOf i).toNat)
      case atStart => exact ⟨0, Nat.zero_le _, rfl, rfl⟩
      case round =>
        obtain ⟨k, hk, rfl, rfl⟩ := hrel
        by_cases hlt : k < n1
        · obtain ⟨t, ht⟩ : ∃ t, ts[k]? = some t := at_of (by have := HL.out; omega)
          obtain ⟨b, o, rfl, hbb, g0, g1, g2, g3, g4⟩ := HI4.out.2 k t ht
          obtain ⟨e1, e2, e3, e4⟩ := HEach.out k t ht
          have hne : ¬ t.every = 0 := by omega
          clear ht g0 g1 g2 g4
          go_wp2
          go_roundw
          case rel => exact ⟨k + 1, by omega, by go_num, trivial⟩
          case measure => simp [intOf]; omega
        · go_wp2
          go_ret
          exact ⟨rfl, HB4.out⟩
set_option maxHeartbeats 1000000 in
theorem w_FnHyperMore (A : Option Addr) (n c : Nat) (w : World) (hm : n ≤ maxLen) (hcode : IsBytes w A n c) : Calls Try.prog 7 #[.slice A n c] w (Ret w (.bool true)) := by
  unfold maxLen at hm
  by_cases hn : 1048576 < n
  · go_enter Try.func7, Try.ntmps7
    go_wp2
    go_ret
    exact ⟨rfl, Below.refl _ _⟩
  · have HC := Lib.hid hcode
    clear hcode
    go_enter Try.func7, Try.ntmps7
    go_wp2_with fail
    refine (c_spec_DrawHyperOf A n c _ HC.out (by omega)).mono ?_
    rintro r w1 ⟨A1, n1, c1, ts, rfl, hn1, hnc1, hb1, hi1⟩
    have HB1 := Lib.hid hb1
    have HI1 := Lib.hid hi1
    have HL := Lib.hid hi1.1
    clear hb1 hi1
    go_wp2_with fail
    refine (c_impl_HyperOf A1 n1 c1 ts _ HI1.out (by omega)).mono ?_
    rintro r w2 ⟨rfl, hb2⟩
    have HB2 := Lib.hid (below2 HB1.out hb2)
    have HI2 := Lib.hid (HI1.out.below hb2)
    clear hb2
    go_wp2_with fail
    refine (c_spec_HyperOf A1 n1 c1 ts _ HI2.out (by omega)).mono ?_
    rintro r w3 ⟨rfl, hb3⟩
    have HB3 := Lib.hid (below2 HB2.out hb3)
    have HI3 := Lib.hid (HI2.out.below hb3)
    clear hb3 HB1 HI1 HB2 HI2
    cases hv : svB ts
    · have HE := Lib.hid (hyN_no hv)
      clear hv
      rw [HE.out]
      go_wp2_with fail
      refine (c_spec_HyperOf A1 n1 c1 ts _ HI3.out (by omega)).mono ?_
      rintro r w5 ⟨rfl, hb5⟩
      have HB5 := Lib.hid (below2 HB3.out hb5)
      clear hb5
      rw [HE.out]
      go_wp2
      go_ret
      exact ⟨rfl, HB5.out⟩
    · have hN := hyN_bds hv
      have hD := hyN_drop hv 1
      have hD2 := (hyN_bds (svB_drop hv 1)).2
      have hx : (hyN ts == 0) = false := by rw [beq_eq_false_iff_ne]; omega
      by_cases h0 : n1 = 0
      · subst h0
        go_wp2_with fail
        refine (c_spec_HyperOf A1 0 c1 ts _ HI3.out (by omega)).mono ?_
        rintro r w5 ⟨rfl, hb5⟩
        have HB5 := Lib.hid (below2 HB3.out hb5)
        clear hb5
        go_wp2
        go_ret
        exact ⟨rfl, HB5.out⟩
      · have hx2 : ((n1 : Int) == 0) = false := by rw [beq_eq_false_iff_ne]; omega
        obtain ⟨t, ht⟩ : ∃ t, ts[0]? = some t := at_of (by have := HL.out; omega)
        obtain ⟨b, o, rfl, hbb, g0, g1, g2, g3, g4⟩ := HI3.out.2 0 t ht
        have HID := Lib.hid (HI3.out.drop (k := 1) (by omega))
        have HM := Lib.hid hN
        have HD := Lib.hid hD
        have HD2 := Lib.hid hD2
        clear ht g0 g1 g2 g3 g4 hv hN hD hD2
        by_cases hc1 : c1 = 1
        · subst hc1
          obtain rfl : n1 = 1 := by omega
          have HID' := Lib.hid (show IsTs w3 (some ⟨b, o, none⟩) 0 (ts.drop 1) by rw [List.drop_eq_nil_of_le (by have := HL.out; omega)]; exact IsTs.none_)
          go_wp2_with fail
          refine (c_impl_HyperOf _ _ _ (ts.drop 1) _ HID'.out (by omega)).mono ?_
          rintro r w5 ⟨rfl, hb5⟩
          have HB5 := Lib.hid (below2 HB3.out hb5)
          obtain ⟨m1, m2⟩ := HM.out
          obtain ⟨d1, d2⟩ := HD.out
          have d3 := HD2.out
          clear hb5
          generalize hyN (ts.drop 1) = M at *
          generalize hyN ts = N at *
          have hne : ¬ M = 0 := by omega
          go_wp2
          go_ret
          exact ⟨rfl, HB5.out⟩
        · go_wp2_with fail
          refine (c_impl_HyperOf _ _ _ (ts.drop 1) _ HID.out (by omega)).mono ?_
          rintro r w5 ⟨rfl, hb5⟩
          have HB5 := Lib.hid (below2 HB3.out hb5)
          obtain ⟨m1, m2⟩ := HM.out
          obtain ⟨d1, d2⟩ := HD.out
          have d3 := HD2.out
          clear hb5
          generalize hyN (ts.drop 1) = M at *
          generalize hyN ts = N at *
          have hne : ¬ M = 0 := by omega
          go_wp2
          go_ret
          exact ⟨rfl, HB5.out⟩
set_option maxHeartbeats 2000000 in
theorem w_FnHyperLeast (A : Option Addr) (n c : Nat) (w : World) (hm : n ≤ maxLen) (hcode : IsBytes w A n c) : Calls Try.prog 6 #[.slice A n c] w (Ret w (.bool true)) := by
  unfold maxLen at hm
  by_cases hn : 1048576 < n
  · go_enter Try.func6, Try.ntmps6
    go_wp2
    go_ret
    exact ⟨rfl, Below.refl _ _⟩
  · have HC := Lib.hid hcode
    clear hcode
    go_enter Try.func6, Try.ntmps6
    go_wp2_with fail
    refine (c_spec_DrawHyperOf A n c _ HC.out (by omega)).mono ?_
    rintro r w1 ⟨A1, n1, c1, ts, rfl, hn1, hnc1, hb1, hi1⟩
    have HB1 := Lib.hid hb1
    have HI1 := Lib.hid hi1
    have HL := Lib.hid hi1.1
    clear hb1 hi1
    go_wp2_with fail
    refine (c_impl_HyperOf A1 n1 c1 ts _ HI1.out (by omega)).mono ?_
    rintro r w2 ⟨rfl, hb2⟩
    have HB2 := Lib.hid (below2 HB1.out hb2)
    have HI2 := Lib.hid (HI1.out.below hb2)
    clear hb2
    go_wp2_with fail
    refine (c_spec_HyperOf A1 n1 c1 ts _ HI2.out (by omega)).mono ?_
    rintro r w3 ⟨rfl, hb3⟩
    have HB3 := Lib.hid (below2 HB2.out hb3)
    have HI3 := Lib.hid (HI2.out.below hb3)
    clear hb3 HB1 HI1 HB2 HI2
    by_cases hlow : hyN ts < 2
    · go_wp2_with fail
      refine (c_spec_HyperOf A1 n1 c1 ts _ HI3.out (by omega)).mono ?_
      rintro r w5 ⟨rfl, hb5⟩
      have HB5 := Lib.hid (below2 HB3.out hb5)
      clear hb5
      go_wp2
      go_ret
      exact ⟨rfl, HB5.out⟩
    by_cases hhigh : 400 < hyN ts
    · go_wp2_with fail
      refine (c_spec_HyperOf A1 n1 c1 ts _ HI3.out (by omega)).mono ?_
      rintro r w5 ⟨rfl, hb5⟩
      have HB5 := Lib.hid (below2 HB3.out hb5)
      clear hb5
      go_wp2
      go_ret
      exact ⟨rfl, HB5.out⟩
    · have hv : svB ts = true := by
        cases hv : svB ts
        · have := hyN_no hv
          omega
        · rfl
      have HE := Lib.hid (fun (k : Nat) (t : Tk) (ht : ts[k]? = some t) => hyN_each hv ht)
      have HNot := Lib.hid (fun (k : Int) (h1 : 1 ≤ k) (h2 : k < hyN ts) => allB_not hv h1 h2)
      clear hv
      generalize hyN ts = N at *
      go_wp2
      go_loopw [5] (fun i wr => ∃ k : Int, 1 ≤ k ∧ k ≤ N ∧ i = .int .i64 k ∧ w3 = wr) (fun i _ => (N - intOf i).toNat)
      case atStart => exact ⟨1, by omega, by omega, rfl, rfl⟩
      case round =>
        obtain ⟨k, hk1, hk2, rfl, rfl⟩ := hrel
        by_cases hlt : k < N
        · go_wp2
          go_loopw [6, 7] (fun u i wr => ∃ j : Nat, j ≤ n1 ∧ i = .int .i64 j ∧ u = .bool (allB k (ts.take j)) ∧ w3 = wr) (fun _ i _ => n1 - (intOf i).toNat)
          case atStart => exact ⟨0, Nat.zero_le _, rfl, rfl, rfl⟩
          case round =>
            obtain ⟨j, hj, rfl, rfl, rfl⟩ := hrel
            by_cases hlt' : j < n1
            · obtain ⟨t, ht⟩ : ∃ t, ts[j]? = some t := at_of (by have := HL.out; omega)
              obtain ⟨b, o, rfl, hbb, g0, g1, g2, g3, g4⟩ := HI3.out.2 j t ht
              obtain ⟨e1, e2, e3, e4⟩ := HE.out j t ht
              have hne : ¬ t.every = 0 := by omega
              have HS := Lib.hid (allB_snoc (k := k) ht)
              clear ht g0 g1 g2 g4 e1
              cases ha : allB k (ts.take j)
              · have HA := Lib.hid ha
                clear ha
                go_wp2
                go_roundw
                case rel => exact ⟨j + 1, by omega, by go_num, by rw [HS.out, HA.out]; rfl, trivial⟩
                case measure => simp [intOf]; omega
              · have HA := Lib.hid ha
                clear ha
                go_wp2
                go_roundw
                case rel => exact ⟨j + 1, by omega, by go_num, by rw [HS.out, HA.out, ← beq_dec]; rfl, trivial⟩
                case measure => simp [intOf]; omega
            · have HZ := Lib.hid (show allB k (ts.take j) = false by rw [List.take_of_length_le (by have := HL.out; omega)]; exact HNot.out k hk1 hlt)
              rw [HZ.out]
              go_wp2
              go_roundw
              case rel => exact ⟨k + 1, by omega, by omega, rfl, trivial⟩
              case measure => simp [intOf]; omega
        · go_wp2
          go_ret
          exact ⟨rfl, HB3.out⟩
end Go.Proofs.Ytjnmecfgbakkcaa
