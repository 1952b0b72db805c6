/-
  Contracts of HoldsLow.
-/
import Derived.Test.YtjnmecfgbakkcaaRespL
namespace Go.Proofs.Ytjnmecfgbakkcaa
open Go.RowKit
/-- What HoldsLow answers. -/
def hlB (ts : List Tk) : Bool := svB ts && (List.range ts.length).all fun k => ansB (rspL ts k)
theorem hlB_no {ts : List Tk} (h : svB ts = false) : hlB ts = false := by unfold hlB; rw [h]; rfl
theorem hlB_bad {ts : List Tk} {k : Nat} (hk : k < ts.length) (h : ansB (rspL ts k) = false) : hlB ts = false := by
  unfold hlB
  rw [Bool.and_eq_false_iff]
  right
  rw [List.all_eq_false]
  exact ⟨k, List.mem_range.2 hk, by simp [h]⟩
theorem hlB_all {ts : List Tk} (hv : svB ts = true) (h : ∀ k : Nat, k < ts.length → ansB (rspL ts k) = true) : hlB ts = true := by
  unfold hlB
  rw [hv, Bool.true_and, List.all_eq_true]
  exact fun k hk => h k (List.mem_range.1 hk)
theorem c_l3Low (A : Option Addr) (n c : Nat) (ts : List Tk) (a : Int) (w : World) (h : IsTs w A n ts) (hn : n ≤ 140737488351232) :
    Calls Try.prog 59 #[.slice A n c, .int .i64 a] w (Ret w (.bool (ansB (rspL ts a)))) := by
  go_enter Try.func59, Try.ntmps59
  go_wp2_with fail
  refine (c_spec_ResponseLow A n c ts a w h hn).mono ?_
  rintro r w1 ⟨rfl, hb1⟩
  go_wp2
  go_ret
  exact ⟨rfl, hb1⟩
set_option maxHeartbeats 400000 in
theorem c_impl_HoldsLow (A : Option Addr) (n c : Nat) (ts : List Tk) (w : World) (h : IsTs w A n ts) (hn : n ≤ 140737488351232) (hnc : n ≤ c) :
    Calls Try.prog 40 #[.slice A n c] w (Ret w (.bool (hlB ts))) := by
  have HL := Lib.hid h.1
  have H := Lib.hid h
  clear h
  go_enter Try.func40, Try.ntmps40
  go_wp2
  go_loopw [8] (fun i wr => ∃ k : Nat, k ≤ n ∧ i = .int .i64 k ∧ (∀ j : Nat, j < k → ansB (rspL ts j) = true) ∧ Below w.heap.size w wr) (fun i _ => n - (intOf i).toNat)
  case atStart => exact ⟨0, Nat.zero_le _, rfl, fun j hj => absurd hj (by omega), Below.refl _ _⟩
  case round =>
    obtain ⟨k, hk, rfl, hall, hb⟩ := hrel
    have HB := Lib.hid hb
    have HA := Lib.hid hall
    clear hall hb
    by_cases hlt : k < n
    · go_wp2_with fail
      refine (c_impl_ResponseLow A n c ts k _ (H.out.below HB.out) hn hnc).mono ?_
      rintro r w1 ⟨rfl, hb1⟩
      have HW := Lib.hid (below2 HB.out hb1)
      clear hb1
      cases hv : ansB (rspL ts k)
      · go_wp2
        go_ret
        exact ⟨ret_bool (hlB_bad (by have := HL.out; omega) hv).symm, HW.out⟩
      · have HV := Lib.hid hv
        clear hv
        go_wp2
        go_roundw
        case rel => exact ⟨k + 1, by omega, by go_num, fun j hj => by
            by_cases e : j < k
            · exact HA.out j e
            · rw [show j = k by omega]; exact HV.out, HW.out⟩
        case measure => simp [intOf]; omega
    · go_wp2_with fail
      refine (c_impl_SetValid A n c ts _ (H.out.below HB.out) hn).mono ?_
      rintro r w1 ⟨rfl, hb1⟩
      have HW := Lib.hid (below2 HB.out hb1)
      clear hb1
      go_wp2
      go_ret
      refine ⟨ret_bool ?_, HW.out⟩
      cases hv : svB ts
      · exact (hlB_no hv).symm
      · exact (hlB_all hv fun j hj => HA.out j (by have := HL.out; omega)).symm
set_option maxHeartbeats 1000000 in
theorem c_spec_HoldsLow (A : Option Addr) (n c : Nat) (ts : List Tk) (w : World) (h : IsTs w A n ts) (hn : n ≤ 140737488351232) :
    Calls Try.prog 39 #[.slice A n c] w (Ret w (.bool (hlB ts))) := by
  have HL := Lib.hid h.1
  have H := Lib.hid h
  clear h
  cases hv : svB ts
  · rw [hlB_no hv]
    have HV := Lib.hid hv
    clear hv
    by_cases hn0 : n = 0
    · exfalso
      have e : ts = [] := List.length_eq_zero_iff.1 (by have := HL.out; omega)
      have := HV.out
      rw [e] at this
      exact absurd this (by decide)
    · go_enter Try.func39, Try.ntmps39
      go_wp2
      refine wp_loop_rounds 1 ?_
      rw [rounds_succ]
      go_wp2_with fail
      refine (c_spec_SetValid A n c ts _ H.out hn).mono ?_
      rintro r w1 ⟨rfl, hb1⟩
      have HB1 := Lib.hid hb1
      rw [HV.out]
      clear hb1
      go_wp2_with fail
      refine (c_spec_SetValid A n c ts _ (H.out.below HB1.out) hn).mono ?_
      rintro r w2 ⟨rfl, hb2⟩
      have HB2 := Lib.hid (below2 HB1.out hb2)
      rw [HV.out]
      clear hb2
      go_wp2
      go_ret
      exact ⟨rfl, HB2.out⟩
  · have HV := Lib.hid hv
    have hl5 := svB_len hv
    have hn5 : n ≤ 5 := by have := HL.out; omega
    clear hv
    go_enter Try.func39, Try.ntmps39
    go_wp2
    go_loopw [3] (fun i wr => ∃ k : Nat, k ≤ n ∧ i = .int .i64 k ∧ (∀ j : Nat, j < k → ansB (rspL ts j) = true) ∧ Below w.heap.size w wr) (fun i _ => n - (intOf i).toNat)
    case atStart => exact ⟨0, Nat.zero_le _, rfl, fun j hj => absurd hj (by omega), Below.refl _ _⟩
    case round =>
      obtain ⟨k, hk, rfl, hall, hb⟩ := hrel
      have HB0 := Lib.hid hb
      have HA := Lib.hid hall
      clear hall hb
      by_cases hlt : k < n
      · go_wp2_with fail
        refine (c_spec_SetValid A n c ts _ (H.out.below HB0.out) hn).mono ?_
        rintro r wr1 ⟨rfl, hbr⟩
        have HB := Lib.hid (below2 HB0.out hbr)
        rw [HV.out]
        clear hbr HB0
        go_wp2_with fail
        refine (c_l3Low A n c ts k _ (H.out.below HB.out) hn).mono ?_
        rintro r w1 ⟨rfl, hb1⟩
        have HW := Lib.hid (below2 HB.out hb1)
        clear hb1
        cases hv : ansB (rspL ts k)
        · go_wp2
          go_ret
          exact ⟨ret_bool (hlB_bad (by have := HL.out; omega) hv).symm, HW.out⟩
        · have HV1 := Lib.hid hv
          clear hv
          go_wp2
          go_roundw
          case rel => exact ⟨k + 1, by omega, by go_num, fun j hj => by
              by_cases e : j < k
              · exact HA.out j e
              · rw [show j = k by omega]; exact HV1.out, HW.out⟩
          case measure => simp [intOf]; omega
      · go_wp2_with fail
        refine (c_spec_SetValid A n c ts _ (H.out.below HB0.out) hn).mono ?_
        rintro r w1 ⟨rfl, hb1⟩
        have HW := Lib.hid (below2 HB0.out hb1)
        clear hb1
        go_wp2
        go_ret
        refine ⟨ret_bool ?_, HW.out⟩
        rw [HV.out]
        exact (hlB_all HV.out fun j hj => HA.out j (by have := HL.out; omega)).symm
end Go.Proofs.Ytjnmecfgbakkcaa
