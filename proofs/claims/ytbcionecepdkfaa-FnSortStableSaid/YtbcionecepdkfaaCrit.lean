/-
  Contracts of CriticalOf.
-/
import Derived.Test.YtbcionecepdkfaaOwnAdd
import Derived.Test.YtbcionecepdkfaaList
import Derived.Test.YtbcionecepdkfaaMathC
namespace Go.Proofs.Ytbcionecepdkfaa
open Go.RowKit
/-- A new list that holds the tasks ts. -/
def GotTs (w : World) (e : TypeId) (ts : List Tk) (r : Ending) (w' : World) : Prop := ∃ A n c, r = .returned (.slice A n c) ∧ Below w.heap.size w w' ∧ OwnT w' w.heap.size e A n c ts
set_option maxHeartbeats 1000000 in
theorem c_impl_CriticalOf (A : Option Addr) (n c : Nat) (ts : List Tk) (w : World) (h : IsTs w A n ts) (hn : n ≤ 140737488351232) :
    Calls Try.prog 13 #[.slice A n c] w (GotTs w 28 (crA ts)) := by
  cases hv : svB ts
  · rw [crA_no hv]
    go_enter Try.func13, Try.ntmps13
    go_wp2_with fail
    refine (c_impl_SetValid A n c ts w h hn).mono ?_
    rintro r w1 ⟨rfl, hb1⟩
    go_wp2
    go_ret
    exact ⟨none, 0, 0, rfl, hb1, OwnT.nil_ _ _ _⟩
  · rw [crA_yes hv]
    obtain ⟨i0, hi, hz0, hz1, hz2⟩ := info_parts info_Task
    have HI := Lib.hid (And.intro hi (And.intro hz0 (And.intro hz1 hz2)))
    clear hi hz0 hz1 hz2
    have hl5 := svB_len hv
    have hl := h.1
    have hn5 : n ≤ 5 := by omega
    have HV := Lib.hid hv
    have HL := Lib.hid hl
    have H := Lib.hid h
    clear h hl
    go_enter Try.func13, Try.ntmps13
    go_wp2_with fail
    refine (c_impl_SetValid A n c ts w H.out hn).mono ?_
    rintro r w1 ⟨rfl, hb1⟩
    have HB1 := Lib.hid (below2 hb1 (below_alloc (.cells #[] 28)))
    have HO1 := Lib.hid (OwnT.empty (e := 28) w1 hb1.size)
    clear hb1
    go_wp2
    clear hv
    go_loopw [3, 12] (fun u i wr => ∃ (k : Nat) (A1 : Option Addr) (m c1 : Nat), k ≤ n ∧ m ≤ k ∧ i = .int .i64 k ∧ u = .slice A1 m c1 ∧ Below w.heap.size w wr ∧ OwnT wr w.heap.size 28 A1 m c1 (critL (ts.take k))) (fun _ i _ => n - (intOf i).toNat)
    case atStart => exact ⟨0, _, 0, 0, Nat.zero_le _, Nat.le_refl _, rfl, rfl, HB1.out, HO1.out⟩
    case round =>
      clear HB1 HO1
      obtain ⟨k, A1, m, c1, hk, hmk, rfl, rfl, hb, ho⟩ := hrel
      have HB := Lib.hid hb
      have HO := Lib.hid ho
      clear hb ho
      by_cases hlt : k < n
      · obtain ⟨t, ht⟩ : ∃ t, ts[k]? = some t := at_of (by have := HL.out; omega)
        obtain ⟨b, o, rfl, hbb, h0, h1, h2, h3, h4⟩ := (H.out.below HB.out).2 k t ht
        have HT := Lib.hid ht
        clear ht
        cases hcr : t.crit
        · rw [hcr] at h4
          go_wp2
          go_roundw
          case rel => exact ⟨k + 1, A1, m, c1, by omega, by omega, by go_num, rfl, below2 HB.out (below_alloc _), by rw [critL_no HT.out hcr]; exact HO.out.below (below_alloc _)⟩
          case measure => simp [intOf]; omega
        · rw [hcr] at h4
          have hbb2 := below2 (below_alloc (w := wr) (.cells #[.int .i64 t.high, .int .i64 t.high, .int .i64 t.due, .int .i64 t.every, .bool true] 28)) (below_alloc (.cells #[.int .i64 t.high, .int .i64 t.high, .int .i64 t.due, .int .i64 t.every, .bool true] 28))
          have HOA := Lib.hid (HO.out.below hbb2)
          have HBA := Lib.hid (below2 HB.out hbb2)
          have HN := Lib.hid (Tk.news (wr.alloc (.cells #[.int .i64 t.high, .int .i64 t.high, .int .i64 t.due, .int .i64 t.every, .bool true] 28)) 28 ⟨t.high, t.high, t.due, t.every, true⟩)
          have HC := Lib.hid hcr
          clear hcr hbb2
          go_wp2_with (at_builtin; refine wpList_append_task rfl _ _ 23 rfl i0 Try.underlying23 HI.out.1 HI.out.2.1 HI.out.2.2.1 HI.out.2.2.2 rfl HOA.out (by omega) _ ⟨t.high, t.high, t.due, t.every, true⟩ rfl (by simpa using HN.out) (HBA.out.size) ?_; intro A2 c2 w2 ho2 hg2; have HO2 := Lib.hid ho2; have HG2 := Lib.hid hg2; clear ho2 hg2)
          go_roundw
          case rel =>
            refine ⟨k + 1, A2, m + 1, c2, by omega, by omega, by go_num, rfl, own_below HBA.out HOA.out HG2.out HBA.out.size, ?_⟩
            rw [critL_yes HT.out HC.out]
            have e : critT t = ⟨t.high, t.high, t.due, t.every, true⟩ := by unfold critT; rw [HC.out]
            rw [e]
            exact HO2.out
          case measure => simp [intOf]; omega
      · go_wp2
        go_ret
        refine ⟨_, _, _, rfl, HB.out, ?_⟩
        have := HO.out
        rw [List.take_of_length_le (by have := HL.out; omega)] at this
        exact this
set_option maxHeartbeats 1000000 in
theorem c_spec_CriticalOf (A : Option Addr) (n c : Nat) (ts : List Tk) (w : World) (h : IsTs w A n ts) (hn : n ≤ 140737488351232) :
    Calls Try.prog 14 #[.slice A n c] w (GotTs w 28 (crA ts)) := by
  have HL := Lib.hid h.1
  have H := Lib.hid h
  clear h
  have HB1 := Lib.hid (below_alloc (w := w) (.cells #[] 28))
  have HO1 := Lib.hid (OwnT.empty (e := 28) w (Nat.le_refl _))
  by_cases hn0 : n = 0
  · have e : ts = [] := List.length_eq_zero_iff.1 (by have := HL.out; omega)
    rw [e, show crA [] = [] from rfl]
    subst hn0
    clear e
    go_enter Try.func14, Try.ntmps14
    go_wp2
    refine wp_loop_rounds 1 ?_
    rw [rounds_succ]
    go_wp2
    go_ret
    exact ⟨_, 0, 0, rfl, HB1.out, HO1.out⟩
  cases hv : svB ts
  · rw [crA_no hv]
    have HV := Lib.hid hv
    clear hv
    go_enter Try.func14, Try.ntmps14
    go_wp2
    refine wp_loop_rounds 1 ?_
    rw [rounds_succ]
    go_wp2_with fail
    refine (c_spec_SetValid A n c ts _ (H.out.below HB1.out) hn).mono ?_
    rintro r w1 ⟨rfl, hb1⟩
    rw [HV.out]
    go_wp2
    go_ret
    exact ⟨_, 0, 0, rfl, below2 HB1.out hb1, HO1.out.below hb1⟩
  · rw [crA_yes hv]
    obtain ⟨i0, hi, hz0, hz1, hz2⟩ := info_parts info_Task
    have HI := Lib.hid (And.intro hi (And.intro hz0 (And.intro hz1 hz2)))
    clear hi hz0 hz1 hz2
    have hl5 := svB_len hv
    have hn5 : n ≤ 5 := by have := HL.out; omega
    have HV := Lib.hid hv
    clear hv
    go_enter Try.func14, Try.ntmps14
    go_wp2
    go_loopw [3, 4] (fun u i wr => ∃ (k : Nat) (A1 : Option Addr) (m c1 : Nat), k ≤ n ∧ m ≤ k ∧ i = .int .i64 k ∧ u = .slice A1 m c1 ∧ Below w.heap.size w wr ∧ OwnT wr w.heap.size 28 A1 m c1 (critL (ts.take k))) (fun _ i _ => n - (intOf i).toNat)
    case atStart => exact ⟨0, _, 0, 0, Nat.zero_le _, Nat.le_refl _, rfl, rfl, HB1.out, HO1.out⟩
    case round =>
      clear HB1 HO1
      obtain ⟨k, A1, m, c1, hk, hmk, rfl, rfl, hb, ho⟩ := hrel
      have HB0 := Lib.hid hb
      have HO0 := Lib.hid ho
      clear hb ho
      by_cases hlt : k < n
      · go_wp2_with fail
        refine (c_spec_SetValid A n c ts _ (H.out.below HB0.out) hn).mono ?_
        rintro r wr1 ⟨rfl, hbr⟩
        have HB := Lib.hid (below2 HB0.out hbr)
        have HO := Lib.hid (HO0.out.below hbr)
        clear hbr HB0 HO0
        obtain ⟨t, ht⟩ : ∃ t, ts[k]? = some t := at_of (by have := HL.out; omega)
        obtain ⟨b, o, rfl, hbb, h0, h1, h2, h3, h4⟩ := (H.out.below HB.out).2 k t ht
        have HT := Lib.hid ht
        clear ht
        rw [HV.out]
        cases hcr : t.crit
        · rw [hcr] at h4
          go_wp2
          go_roundw
          case rel => exact ⟨k + 1, A1, m, c1, by omega, by omega, by go_num, rfl, below2 HB.out (below_alloc _), by rw [critL_no HT.out hcr]; exact HO.out.below (below_alloc _)⟩
          case measure => simp [intOf]; omega
        · rw [hcr] at h4
          have hbb2 := below2 (below_alloc (w := wr1) (.cells #[.int .i64 t.high, .int .i64 t.high, .int .i64 t.due, .int .i64 t.every, .bool true] 28)) (below_alloc (.cells #[.int .i64 t.high, .int .i64 t.high, .int .i64 t.due, .int .i64 t.every, .bool true] 28))
          have HOA := Lib.hid (HO.out.below hbb2)
          have HBA := Lib.hid (below2 HB.out hbb2)
          have HN := Lib.hid (Tk.news (wr1.alloc (.cells #[.int .i64 t.high, .int .i64 t.high, .int .i64 t.due, .int .i64 t.every, .bool true] 28)) 28 ⟨t.high, t.high, t.due, t.every, true⟩)
          have HC := Lib.hid hcr
          clear hcr hbb2
          go_wp2_with (at_builtin; refine wpList_append_task rfl _ _ 23 rfl i0 Try.underlying23 HI.out.1 HI.out.2.1 HI.out.2.2.1 HI.out.2.2.2 rfl HOA.out (by omega) _ ⟨t.high, t.high, t.due, t.every, true⟩ rfl (by simpa using HN.out) (HBA.out.size) ?_; intro A2 c2 w2 ho2 hg2; have HO2 := Lib.hid ho2; have HG2 := Lib.hid hg2; clear ho2 hg2)
          go_roundw
          case rel =>
            refine ⟨k + 1, A2, m + 1, c2, by omega, by omega, by go_num, rfl, own_below HBA.out HOA.out HG2.out HBA.out.size, ?_⟩
            rw [critL_yes HT.out HC.out]
            have e : critT t = ⟨t.high, t.high, t.due, t.every, true⟩ := by unfold critT; rw [HC.out]
            rw [e]
            exact HO2.out
          case measure => simp [intOf]; omega
      · go_wp2
        go_ret
        refine ⟨_, _, _, rfl, HB0.out, ?_⟩
        have := HO0.out
        rw [List.take_of_length_le (by have := HL.out; omega)] at this
        exact this
end Go.Proofs.Ytbcionecepdkfaa
