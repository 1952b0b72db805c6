/-
  Contracts of BusyLow.
-/
import Derived.Test.YtjnmecfgbakkcaaRespL
import Derived.Test.YtjnmecfgbakkcaaHyper
namespace Go.Proofs.Ytjnmecfgbakkcaa
open Go.RowKit
/-- What BusyLow answers. -/
def bsA (ts : List Tk) : Option Int := bsyL ts (hyN ts)
theorem bsA_no {ts : List Tk} (h : svB ts = false) : bsA ts = none := if_neg (by simp [h])
theorem bsA_nil : bsA [] = none := by
  show (if svB [] = true ∧ ([] : List Tk) ≠ [] then lfix (fBusy []) 1 (hyN []) else none) = none
  exact if_neg (fun h => h.2 rfl)
theorem bsA_yes {ts : List Tk} (h : svB ts = true) (hn : ts ≠ []) : bsA ts = lfix (fBusy ts) 1 (hyN ts) := if_pos ⟨h, hn⟩
theorem hyN_bd {ts : List Tk} (h : svB ts = true) : 1 ≤ hyN ts ∧ hyN ts ≤ 3200000 := by
  have e : hyN ts = hyl ts := if_pos h
  have hb := hyl_bd h ts.length (Nat.le_refl _)
  have hp := pow_small (svB_len h)
  rw [List.take_of_length_le (Nat.le_refl _)] at hb
  omega
theorem fBusy_bd {ts : List Tk} (hv : svB ts = true) {x : Int} (h0 : 0 ≤ x) (h1 : x ≤ 1000000000) (j : Nat) :
    0 ≤ dsum (fun t => t.dm x false) 0 (ts.take j) ∧ dsum (fun t => t.dm x false) 0 (ts.take j) ≤ 1000000000000000 := fLow_bd hv (low := 0) (by omega) h0 h1 j
set_option maxHeartbeats 1000000 in
theorem c_impl_BusyLow1 (A : Option Addr) (n c b1 : Nat) (ts : List Tk) (x : Int) (w : World) (h : IsTs w A n ts) (hv : svB ts = true)
    (hc1 : w.cell? ⟨b1, 0, none⟩ = some (.slice A n c)) (h0 : 0 ≤ x) (h1 : x ≤ 1000000000) :
    Calls Try.prog 58 #[.int .i64 x, .pointer (some ⟨b1, 0, none⟩)] w (Ret w (.int .i64 (fBusy ts x))) := by
  have hl5 := svB_len hv
  have hn5 : n ≤ 5 := by have := h.1; omega
  have H := Lib.hid h
  have HV := Lib.hid hv
  have HL := Lib.hid h.1
  clear h hv
  go_enter Try.func58, Try.ntmps58
  go_wp2
  go_loopw [4, 9] (fun u i wr => ∃ j : Nat, j ≤ n ∧ i = .int .i64 j ∧ u = .int .i64 (dsum (fun t => t.dm x false) 0 (ts.take j)) ∧ Below w.heap.size w wr) (fun _ i _ => n - (intOf i).toNat)
  case atStart => exact ⟨0, Nat.zero_le _, rfl, rfl, Below.refl _ _⟩
  case round =>
    obtain ⟨j, hj, rfl, rfl, hb⟩ := hrel
    have HB := Lib.hid hb
    clear hb
    by_cases hlt : j < n
    · obtain ⟨t', ht'⟩ : ∃ t, ts[j]? = some t := at_of (by have := HL.out; omega)
      obtain ⟨b', o', rfl, hbb', g0, g1, g2, g3, g4⟩ := (H.out.below HB.out).2 j t' ht'
      have hS := fBusy_bd HV.out h0 h1 j
      have hsn := Lib.hid (dsum_take (g := fun t => t.dm x false) (a := 0) ht')
      have hd := dm_bd (svB_ok HV.out ht') (x := x) false h0 h1
      have hok := svB_ok HV.out ht'
      rw [← dm_eq] at hd
      have s1 := hS.1
      have s2 := hS.2
      have s3 := hd.1
      have s4 := hd.2
      clear hS hd
      generalize hG : dsum (fun t => t.dm x false) 0 (ts.take j) = S at *
      have HG := Lib.hid hG
      have HK := Lib.hid hok
      clear hG ht' hok
      go_wp2_with fail
      refine (c_impl_demand _ _ _ _ _ _ _ _ HK.out h0 h1).mono ?_
      rintro r w1 ⟨rfl, hbw⟩
      have HW := Lib.hid (below2 HB.out (below2 (below_alloc _) hbw))
      clear hbw g0 g1 g2 g3 g4
      go_wp2
      go_roundw
      case rel => exact ⟨j + 1, by omega, by go_num, by rw [hsn.out]; rfl, HW.out⟩
      case measure => simp [intOf]; omega
    · go_wp2
      go_ret
      refine ⟨ret_int ?_, HB.out⟩
      rw [List.take_of_length_le (by have := HL.out; omega)]
      rfl
set_option maxHeartbeats 1000000 in
theorem c_impl_BusyLow (A : Option Addr) (n c : Nat) (ts : List Tk) (w : World) (h : IsTs w A n ts) (hn : n ≤ 140737488351232) :
    Calls Try.prog 38 #[.slice A n c] w (Ret w (.tuple #[.int .i64 (ansN (bsA ts)), .bool (ansB (bsA ts))])) := by
  have HL := Lib.hid h.1
  have H := Lib.hid (h.below (below_alloc (.cells #[.slice A n c] 23)))
  clear h
  cases hv : svB ts
  · rw [bsA_no hv]
    go_enter Try.func38, Try.ntmps38
    go_wp2_with fail
    refine (c_impl_SetValid A n c ts _ H.out hn).mono ?_
    rintro r w1 ⟨rfl, hb1⟩
    have HB := Lib.hid (below2 (below_alloc _) hb1)
    clear hb1
    go_wp2
    go_ret2
    exact ⟨rfl, HB.out⟩
  · by_cases hn0 : n = 0
    · have e : ts = [] := List.length_eq_zero_iff.1 (by have := HL.out; omega)
      rw [e, bsA_nil]
      subst hn0
      have HV := Lib.hid hv
      have HE := Lib.hid e
      clear e hv
      go_enter Try.func38, Try.ntmps38
      go_wp2_with fail
      refine (c_impl_SetValid A 0 c ts _ H.out hn).mono ?_
      rintro r w1 ⟨rfl, hb1⟩
      have HB := Lib.hid (below2 (below_alloc _) hb1)
      have q1 := (bcell hb1).1 w.heap.size 0 (by simp)
      simp at q1
      rw [HV.out]
      clear hb1
      go_wp2
      go_ret2
      exact ⟨rfl, HB.out⟩
    · have hne : ts ≠ [] := by intro e; have := HL.out; rw [e] at this; simp at this; omega
      rw [bsA_yes hv hne]
      have hl5 := svB_len hv
      have hn5 : n ≤ 5 := by have := HL.out; omega
      have hn1 : ((n : Int) == 0) = false := by rw [beq_eq_false_iff_ne]; omega
      have hbd := hyN_bd hv
      have m2 := hbd.2
      have HV := Lib.hid hv
      have HU := Lib.hid (fBusy_up hv hne)
      clear hv hne hbd
      have hmf : ∀ (fn : Fn) (first cap : Array Value) (w : World), (Instr.makeFunc fn first cap).run Try.prog w = .ok (.func fn first cap) w := fun _ _ _ _ => rfl
      go_enter Try.func38, Try.ntmps38
      go_wp2_with fail
      refine (c_impl_SetValid A n c ts _ H.out hn).mono ?_
      rintro r w1 ⟨rfl, hb1⟩
      have HB1 := Lib.hid (below2 (below_alloc _) hb1)
      have HI := Lib.hid (H.out.below hb1)
      have q1 := (bcell hb1).1 w.heap.size 0 (by simp)
      have hz := lt1 hb1
      simp at q1
      rw [HV.out]
      clear hb1
      go_wp2_with fail
      refine (c_impl_HyperOf A n c ts _ HI.out hn).mono ?_
      rintro r w2 ⟨rfl, hb2⟩
      have HB2 := Lib.hid (below2 HB1.out hb2)
      have HI2 := Lib.hid (HI.out.below hb2)
      have q2 := ((bcell hb2).1 w.heap.size 0 hz).trans q1
      have hz2 : w.heap.size < w2.heap.size := Nat.lt_of_lt_of_le hz hb2.size
      clear hb2 q1
      go_wp2_with fail
      refine (c_rises_impl_BusyLow_1 #[.pointer (some ⟨w.heap.size, 0, none⟩)] (fBusy ts) 1 (hyN ts) _ HU.out (fun W x hb hx hx' => c_impl_BusyLow1 A n c w.heap.size ts x W (HI2.out.below hb) HV.out (((bcell hb).1 w.heap.size 0 hz2).trans q2) (by omega) (by omega))).mono ?_
      rintro r w3 ⟨rfl, hb3⟩
      have HB3 := Lib.hid (below2 HB2.out hb3)
      clear hb3 q2
      go_wp2
      go_ret2
      exact ⟨rfl, HB3.out⟩
set_option maxHeartbeats 2000000 in
theorem c_spec_BusyLow (A : Option Addr) (n c : Nat) (ts : List Tk) (w : World) (h : IsTs w A n ts) (hn : n ≤ 140737488351232) :
    Calls Try.prog 37 #[.slice A n c] w (Ret w (.tuple #[.int .i64 (ansN (bsA ts)), .bool (ansB (bsA ts))])) := by
  have HL := Lib.hid h.1
  have H := Lib.hid h
  clear h
  cases hv : svB ts
  · rw [bsA_no hv]
    go_enter Try.func37, Try.ntmps37
    go_wp2_with fail
    refine (c_spec_SetValid A n c ts _ H.out hn).mono ?_
    rintro r w1 ⟨rfl, hb1⟩
    go_wp2
    go_ret2
    exact ⟨rfl, hb1⟩
  · by_cases hn0 : n = 0
    · have e : ts = [] := List.length_eq_zero_iff.1 (by have := HL.out; omega)
      rw [e, bsA_nil]
      subst hn0
      have HV := Lib.hid hv
      clear e hv
      go_enter Try.func37, Try.ntmps37
      go_wp2_with fail
      refine (c_spec_SetValid A 0 c ts _ H.out hn).mono ?_
      rintro r w1 ⟨rfl, hb1⟩
      rw [HV.out]
      go_wp2
      go_ret2
      exact ⟨rfl, hb1⟩
    · have hne : ts ≠ [] := by intro e; have := HL.out; rw [e] at this; simp at this; omega
      rw [bsA_yes hv hne]
      have hl5 := svB_len hv
      have hn5 : n ≤ 5 := by have := HL.out; omega
      have hn1 : ((n : Int) == 0) = false := by rw [beq_eq_false_iff_ne]; omega
      have hbd := hyN_bd hv
      have m2 := hbd.2
      have HV := Lib.hid hv
      have HU := Lib.hid (fBusy_up hv hne)
      clear hv hne hbd
      go_enter Try.func37, Try.ntmps37
      go_wp2_with fail
      refine (c_spec_SetValid A n c ts _ H.out hn).mono ?_
      rintro r w1 ⟨rfl, hb1⟩
      have HB1 := Lib.hid hb1
      rw [HV.out]
      clear hb1
      go_wp2
      go_loopw [4] (fun u wr => ∃ x : Int, u = .int .i64 x ∧ Climb (fBusy ts) 1 x ∧ Below w.heap.size w wr) (fun u _ => (hyN ts + 1 - intOf u).toNat)
      case atStart => exact ⟨1, rfl, Climb.start HU.out, HB1.out⟩
      case round =>
        clear HB1
        obtain ⟨x, rfl, hcl, hb⟩ := hrel
        have HB0 := Lib.hid hb
        have HC := Lib.hid hcl
        have hx0 : 1 ≤ x := hcl.1
        clear hb hcl
        go_wp2_with fail
        refine (c_spec_HyperOf A n c ts _ (H.out.below HB0.out) hn).mono ?_
        rintro r wo ⟨rfl, hbo⟩
        have HB := Lib.hid (below2 HB0.out hbo)
        clear hbo HB0
        by_cases hxm : x ≤ hyN ts
        · have h0 : 0 ≤ x := by omega
          have h1 : x ≤ 1000000000 := by omega
          go_wp2
          go_loopw [5, 6] (fun u i wr => ∃ j : Nat, j ≤ n ∧ i = .int .i64 j ∧ u = .int .i64 (dsum (fun t => t.dm x false) 0 (ts.take j)) ∧ Below w.heap.size w wr) (fun _ i _ => n - (intOf i).toNat)
          case atStart => exact ⟨0, Nat.zero_le _, rfl, rfl, HB.out⟩
          case round =>
            clear HB
            obtain ⟨j, hj, rfl, rfl, hb⟩ := hrel
            have HB := Lib.hid hb
            clear hb
            by_cases hlt : j < n
            · obtain ⟨t', ht'⟩ : ∃ t, ts[j]? = some t := at_of (by have := HL.out; omega)
              obtain ⟨b', o', rfl, hbb', g0, g1, g2, g3, g4⟩ := (H.out.below HB.out).2 j t' ht'
              have hS := fBusy_bd HV.out h0 h1 j
              have hsn := Lib.hid (dsum_take (g := fun t => t.dm x false) (a := 0) ht')
              have hd := dm_bd (svB_ok HV.out ht') (x := x) false h0 h1
              have hok := svB_ok HV.out ht'
              rw [← dm_eq] at hd
              have s1 := hS.1
              have s2 := hS.2
              have s3 := hd.1
              have s4 := hd.2
              clear hS hd
              generalize hG : dsum (fun t => t.dm x false) 0 (ts.take j) = S at *
              have HG := Lib.hid hG
              have HK' := Lib.hid hok
              clear hG ht' hok
              go_wp2_with fail
              refine (c_spec_l3Demand _ _ _ _ _ _ _ _ HK'.out h0 h1).mono ?_
              rintro r w2 ⟨rfl, hbw⟩
              have HW := Lib.hid (below2 HB.out hbw)
              clear hbw g0 g1 g2 g3 g4
              go_wp2
              go_roundw
              case rel => exact ⟨j + 1, by omega, by go_num, by rw [hsn.out]; rfl, HW.out⟩
              case measure => simp [intOf]; omega
            · have hjk : j = n := by omega
              have HJ := Lib.hid (show dsum (fun t => t.dm x false) 0 (ts.take j) = fBusy ts x by rw [List.take_of_length_le (by have := HL.out; omega)]; rfl)
              rw [HJ.out]
              clear hjk
              by_cases hfx : fBusy ts x = x
              · have HF := Lib.hid hfx
                have hE : (fBusy ts x == x) = true := by rw [beq_iff_eq]; exact hfx
                clear hfx
                go_wp2
                go_ret2
                refine ⟨ret_val ?_, HB.out⟩
                rw [Climb.found HC.out HF.out hxm]
                rfl
              · have HS := Lib.hid (Climb.step HU.out HC.out hfx)
                have hE : (fBusy ts x == x) = false := by rw [beq_eq_false_iff_ne]; exact hfx
                clear hfx
                go_wp2
                go_roundw
                case rel => exact ⟨_, rfl, HS.out.1, HB.out⟩
                case measure => have := HS.out.2; simp [intOf]; omega
        · go_wp2
          go_ret2
          refine ⟨ret_val ?_, HB.out⟩
          rw [Climb.gone HC.out (by omega)]
          rfl
end Go.Proofs.Ytjnmecfgbakkcaa
