/-
  Contracts of the functions on lists of tasks that only read, and of the copy.
-/
import Derived.Test.YtncpnjnmljobgaaDoorTask
import Derived.Test.YtncpnjnmljobgaaDoorOwn
namespace Go.Proofs.YtncpnjnmljobgaaDoor
set_option maxRecDepth 100000
open Go.RowKit
set_option maxHeartbeats 400000 in
theorem c_spec_SetValid (A : Option Addr) (n c : Nat) (ts : List Tk) (w : World) (h : IsTs w A n ts) (hn : n ≤ 140737488351232) :
    Calls Tryd.prog 25 #[.slice A n c] w (Ret w (.bool (svB ts))) := by
  have H := Lib.hid h
  clear h
  go_enter Tryd.func25, Tryd.ntmps25
  go_wp2
  go_loopw [3] (fun i wr => ∃ k : Nat, k ≤ n ∧ k ≤ 6 ∧ i = .int .i64 k ∧ (∀ (j : Nat) (t : Tk), j < k → ts[j]? = some t → t.ok = true) ∧ Below w.heap.size w wr) (fun i _ => n - (intOf i).toNat)
  case atStart => exact ⟨0, Nat.zero_le _, by omega, rfl, fun j t hj => absurd hj (by omega), Below.refl _ _⟩
  case round =>
    obtain ⟨k, hk, hk6, rfl, hall, hb⟩ := hrel
    have HB := Lib.hid hb
    have HA := Lib.hid hall
    clear hall hb
    by_cases hlt : k < n
    · by_cases h6 : k ≤ 5
      · obtain ⟨t, ht⟩ : ∃ t, ts[k]? = some t := at_of (by have := H.out.1; omega)
        obtain ⟨b, o, rfl, hbb, h0, h1, h2, h3, h4⟩ := (H.out.below HB.out).2 k t ht
        have HT := Lib.hid ht
        clear ht
        go_wp2_with fail
        refine (c_spec_TaskValid _ _ _ _ _ _).mono ?_
        rintro r w1 ⟨rfl, hb1⟩
        have HW := Lib.hid (below2 HB.out hb1)
        clear hb1 h0 h1 h2 h3 h4
        cases hv : tvB t.low t.high t.due t.every t.crit
        · go_wp2
          go_ret
          exact ⟨ret_bool (svB_not_ok HT.out hv).symm, HW.out⟩
        · go_wp2
          go_roundw
          case rel => exact ⟨k + 1, by omega, by omega, by go_num, all_step HT.out hv HA.out, HW.out⟩
          case measure => simp [intOf]; omega
      · go_wp2
        go_ret
        refine ⟨ret_bool ?_, HB.out⟩
        rw [svB_not_len (by have := H.out.1; omega)]
        simp; omega
    · go_wp2
      go_ret
      refine ⟨ret_bool ?_, HB.out⟩
      have hl := H.out.1
      by_cases h5 : n ≤ 5
      · rw [svB_of (by omega) (fun j t ht => HA.out j t (by have := lt_of_at ht; omega) ht)]
        simp; omega
      · rw [svB_not_len (by omega)]
        simp; omega
set_option maxHeartbeats 400000 in
theorem c_impl_SetValid (A : Option Addr) (n c : Nat) (ts : List Tk) (w : World) (h : IsTs w A n ts) (hn : n ≤ 140737488351232) :
    Calls Tryd.prog 24 #[.slice A n c] w (Ret w (.bool (svB ts))) := by
  have H := Lib.hid h
  clear h
  by_cases h5 : 5 < n
  · go_enter Tryd.func24, Tryd.ntmps24
    go_wp2
    go_ret
    exact ⟨ret_bool (svB_not_len (by have := H.out.1; omega)).symm, Below.refl _ _⟩
  · go_enter Tryd.func24, Tryd.ntmps24
    go_wp2
    go_loopw [10] (fun i wr => ∃ k : Nat, k ≤ n ∧ i = .int .i64 k ∧ (∀ (j : Nat) (t : Tk), j < k → ts[j]? = some t → t.ok = true) ∧ Below w.heap.size w wr) (fun i _ => n - (intOf i).toNat)
    case atStart => exact ⟨0, Nat.zero_le _, rfl, fun j t hj => absurd hj (by omega), Below.refl _ _⟩
    case round =>
      obtain ⟨k, hk, rfl, hall, hb⟩ := hrel
      have HB := Lib.hid hb
      have HA := Lib.hid hall
      clear hall hb
      by_cases hlt : k < n
      · obtain ⟨t, ht⟩ : ∃ t, ts[k]? = some t := at_of (by have := H.out.1; omega)
        obtain ⟨b, o, rfl, hbb, h0, h1, h2, h3, h4⟩ := (H.out.below HB.out).2 k t ht
        have HT := Lib.hid ht
        clear ht
        go_wp2_with fail
        refine (c_impl_TaskValid _ _ _ _ _ _).mono ?_
        rintro r w1 ⟨rfl, hb1⟩
        have HW := Lib.hid (below2 HB.out (below2 (below_alloc _) hb1))
        clear hb1 h0 h1 h2 h3 h4
        cases hv : tvB t.low t.high t.due t.every t.crit
        · go_wp2
          go_ret
          exact ⟨ret_bool (svB_not_ok HT.out hv).symm, HW.out⟩
        · go_wp2
          go_roundw
          case rel => exact ⟨k + 1, by omega, by go_num, all_step HT.out hv HA.out, HW.out⟩
          case measure => simp [intOf]; omega
      · go_wp2
        go_ret
        refine ⟨ret_bool ?_, HB.out⟩
        have hl := H.out.1
        rw [svB_of (by omega) (fun j t ht => HA.out j t (by have := lt_of_at ht; omega) ht)]
def eqsB (xs ys : List Tk) : Bool := decide (xs = ys)
theorem eqsB_ne {xs ys : List Tk} (h : xs ≠ ys) : eqsB xs ys = false := decide_eq_false h
theorem eqsB_eq {xs ys : List Tk} (h : xs = ys) : eqsB xs ys = true := decide_eq_true h
theorem eqsB_part {xs ys : List Tk} {k : Nat} {a b : Tk} (ha : xs[k]? = some a) (hb : ys[k]? = some b) (h : a.eqB b = false) : eqsB xs ys = false := by
  apply eqsB_ne
  rintro rfl
  rw [ha] at hb
  injection hb with hb
  subst hb
  rw [(Tk.eqB_iff a a).2 rfl] at h
  cases h
theorem eqsB_all {xs ys : List Tk} {n : Nat} (hl : xs.length = n) (hl' : ys.length = n) (h : ∀ (j : Nat) (a : Tk), j < n → xs[j]? = some a → ys[j]? = some a) : eqsB xs ys = true := by
  apply eqsB_eq
  apply List.ext_getElem?
  intro j
  by_cases hj : j < n
  · obtain ⟨a, ha⟩ := at_of (ts := xs) (k := j) (by omega)
    rw [ha, h j a hj ha]
  · rw [List.getElem?_eq_none (by omega), List.getElem?_eq_none (by omega)]
theorem ne_len {xs ys : List Tk} {n n' : Nat} (h : xs.length = n) (h' : ys.length = n') (hne : ¬ (n : Int) = n') : xs ≠ ys := by
  rintro rfl
  omega
/-- The two lists agree below place k. -/
def SameTo (xs ys : List Tk) (k : Nat) : Prop := ∀ (j : Nat) (a : Tk), j < k → xs[j]? = some a → ys[j]? = some a
theorem sameTo_step {xs ys : List Tk} {k : Nat} {t : Tk} (h : SameTo xs ys k) (ht : xs[k]? = some t) (ht' : ys[k]? = some t) : SameTo xs ys (k + 1) := by
  intro j a hj ha
  by_cases hjk : j < k
  · exact h j a hjk ha
  · obtain rfl : j = k := by omega
    rw [ht'] ; rw [ht] at ha; exact ha
set_option maxHeartbeats 400000 in
theorem c_eqTaskS (A A' : Option Addr) (n n' c c' : Nat) (xs ys : List Tk) (w : World) (h : IsTs w A n xs) (h' : IsTs w A' n' ys) (hn : n ≤ 140737488351232) (hn' : n' ≤ 140737488351232) :
    Calls Tryd.prog 18 #[.slice A n c, .slice A' n' c'] w (Ret w (.bool (eqsB xs ys))) := by
  have H := Lib.hid h
  have H' := Lib.hid h'
  clear h h'
  by_cases hne : (n : Int) = n'
  · obtain rfl : n = n' := by omega
    clear hne
    go_enter Tryd.func18, Tryd.ntmps18
    go_wp2
    go_loopw [5] (fun i wr => ∃ k : Nat, k ≤ n ∧ i = .int .i64 k ∧ SameTo xs ys k ∧ Below w.heap.size w wr) (fun i _ => n - (intOf i).toNat)
    case atStart => exact ⟨0, Nat.zero_le _, rfl, fun j t hj => absurd hj (by omega), Below.refl _ _⟩
    case round =>
      obtain ⟨k, hk, rfl, hall, hb⟩ := hrel
      have HB := Lib.hid hb
      have HA := Lib.hid hall
      clear hall hb
      by_cases hlt : k < n
      · obtain ⟨t, ht⟩ : ∃ t, xs[k]? = some t := at_of (by have := H.out.1; omega)
        obtain ⟨t', ht'⟩ : ∃ t, ys[k]? = some t := at_of (by have := H'.out.1; omega)
        obtain ⟨b, o, rfl, hbb, h0, h1, h2, h3, h4⟩ := (H.out.below HB.out).2 k t ht
        obtain ⟨b', o', rfl, hbb', g0, g1, g2, g3, g4⟩ := (H'.out.below HB.out).2 k t' ht'
        have HT := Lib.hid ht
        have HT' := Lib.hid ht'
        clear ht ht'
        go_wp2_with fail
        go_still_tail 8, (by kernel_rfl)
        go_wp2_with fail
        refine (c_eqTask _ _ _ _ _ _ _ _ _ _ _).mono ?_
        rintro r w1 ⟨rfl, hb1⟩
        clear h0 h1 h2 h3 h4 g0 g1 g2 g3 g4
        have HW := Lib.hid (below2 HB.out (below2 (Below.drew (Below.refl _ _)) hb1))
        clear hb1
        cases hv : Tk.eqB ⟨t.low, t.high, t.due, t.every, t.crit⟩ ⟨t'.low, t'.high, t'.due, t'.every, t'.crit⟩
        · go_wp2
          go_ret
          exact ⟨ret_bool (eqsB_part HT.out HT'.out hv).symm, HW.out⟩
        · have hv' : t = t' := (Tk.eqB_iff t t').1 hv
          have HV := Lib.hid hv'
          clear hv'
          go_wp2
          go_roundw
          case rel => exact ⟨k + 1, by omega, by go_num, sameTo_step HA.out HT.out (HV.out ▸ HT'.out), HW.out⟩
          case measure => simp [intOf]; omega
      · go_wp2
        go_ret
        exact ⟨ret_bool (eqsB_all H.out.1 H'.out.1 (fun j a hj ha => HA.out j a (by omega) ha)).symm, HB.out⟩
  · have hx : ((n : Int) != n') = true := by rw [bne_iff_ne]; exact hne
    go_enter Tryd.func18, Tryd.ntmps18
    go_wp2
    go_ret
    exact ⟨ret_bool (eqsB_ne (ne_len H.out.1 H'.out.1 hne)).symm, Below.refl _ _⟩
theorem info_Task : (Tryd.prog.info? 24).map (fun i => (i.zero, i.size, i.bytes)) = some (some (.agg #[.int .i64 0, .int .i64 0, .int .i64 0, .int .i64 0, .bool false]), 5, 40) := by kernel_rfl
end Go.Proofs.YtncpnjnmljobgaaDoor
