/-
  The walk of the law that too many tasks are not valid.
-/
import Derived.Test.YtjnmecfgbakkcaaSets
import Derived.Test.YtjnmecfgbakkcaaOwnApp
import Derived.Laws.AppendOwnNone
namespace Go.Proofs.Ytjnmecfgbakkcaa
open Go.RowKit
theorem OwnT.of_none {w : World} {B : Nat} {e : TypeId} {n c : Nat} {ts : List Tk} (h : OwnT w B e none n c ts) : n = 0 ∧ c = 0 ∧ ts = [] := by
  rcases h.2.2 with ⟨hv, h0⟩ | ⟨g, cap, cur, hv, _⟩
  · injection hv with _ h1 h2
    exact ⟨h1, h2, List.length_eq_zero_iff.1 (by rw [h.1]; exact h1)⟩
  · injection hv with h1
    cases h1
theorem OwnT.of_some {w : World} {B : Nat} {e : TypeId} {a : Addr} {n c : Nat} {ts : List Tk} (h : OwnT w B e (some a) n c ts) : ∃ g, a = ⟨g, 0, none⟩ := by
  rcases h.2.2 with ⟨hv, _⟩ | ⟨g, cap, cur, hv, _⟩
  · injection hv with h1
    cases h1
  · injection hv with h1
    injection h1 with h1
    exact ⟨g, h1⟩
def filT : Tk := ⟨1, 1, 2, 2, false⟩
/-- What is laid behind is valid, each by itself. -/
def AllOk (ts : List Tk) : Prop := ∀ (k : Nat) (t : Tk), ts[k]? = some t → t.ok = true
theorem AllOk.snoc {ts : List Tk} (h : AllOk ts) : AllOk (ts ++ [filT]) := by
  intro k t ht
  by_cases hk : k < ts.length
  · rw [List.getElem?_append_left hk] at ht
    exact h k t ht
  · rw [List.getElem?_append_right (by omega)] at ht
    have : k - ts.length = 0 := by
      have := lt_of_at ht
      simpa using this
    rw [this] at ht
    simp at ht
    rw [← ht]
    decide
theorem AllOk.five {ts : List Tk} (h : AllOk ts) : svB (ts.take 5) = true := by
  refine svB_of (by rw [List.length_take]; omega) fun k t ht => ?_
  rw [List.getElem?_take] at ht
  by_cases hk : k < 5
  · rw [if_pos hk] at ht; exact h k t ht
  · rw [if_neg hk] at ht; cases ht
def SomeOwn (w : World) (e : TypeId) (r : Ending) (w' : World) : Prop := ∃ A n c ts, r = .returned (.slice A n c) ∧ n ≤ 6 ∧ Below w.heap.size w w' ∧ OwnT w' w.heap.size e A n c ts
set_option maxHeartbeats 400000 in
theorem c_DrawSetValid_own (A : Option Addr) (n c : Nat) (w : World) (h : IsBytes w A n c) (hn : n ≤ 1048576) : Calls Try.prog 15 #[.slice A n c] w (SomeOwn w 27) := by
  have H := Lib.hid h
  clear h
  go_enter Try.func15, Try.ntmps15
  go_wp2_with fail
  refine (c_l11Open A n c _ H.out hn).mono ?_
  rintro r w1 ⟨g, n1, c1, rfl, hg, hn1, hb1, hr1⟩
  have HR1 := Lib.hid hr1
  have HB1 := Lib.hid hb1
  clear hr1 hb1
  go_wp2_with fail
  refine (c_l1Some g A n1 c1 0 _ HR1.out (by omega) (by omega) hn1).mono ?_
  rintro r w2 ⟨A2, n2, c2, ts, rfl, hn2, hg2, ho2, p2, hp2, hp2', hr2⟩
  have HB2 := Lib.hid (below_src HB1.out hg hg2)
  have HO2 := Lib.hid ho2
  clear hr2 hg2 ho2
  go_wp2
  go_ret
  exact ⟨_, _, _, ts, rfl, hn2, HB2.out, HO2.out.less HB1.out.size⟩
set_option maxHeartbeats 2000000 in
theorem w_FnSetMany (A : Option Addr) (n c : Nat) (w : World) (hm : n ≤ maxLen) (hcode : IsBytes w A n c) : Calls Try.prog 3 #[.slice A n c] w (Ret w (.bool true)) := by
  unfold maxLen at hm
  by_cases hn : 1048576 < n
  · go_enter Try.func3, Try.ntmps3
    go_wp2
    go_ret
    exact ⟨rfl, Below.refl _ _⟩
  · have HC := Lib.hid hcode
    clear hcode
    obtain ⟨i0, hi, hz0, hz1, hz2⟩ := info_parts info_Task
    have HI := Lib.hid (And.intro hi (And.intro hz0 (And.intro hz1 hz2)))
    clear hi hz0 hz1 hz2
    go_enter Try.func3, Try.ntmps3
    go_wp2_with fail
    refine (c_DrawSetValid_own A n c _ HC.out (by omega)).mono ?_
    rintro r w1 ⟨A1, n1, c1, ts, rfl, hn1, hb1, ho1⟩
    have HB1 := Lib.hid hb1
    have HO1 := Lib.hid ho1
    clear hb1 ho1
    go_wp2_with fail
    refine (c_impl_SetValid A1 n1 c1 ts _ HO1.out.isTs (by omega)).mono ?_
    rintro r w2 ⟨rfl, hb2⟩
    have HB2 := Lib.hid (below2 HB1.out hb2)
    have HO2 := Lib.hid (HO1.out.below hb2)
    clear hb2
    go_wp2_with fail
    refine (c_spec_SetValid A1 n1 c1 ts _ HO2.out.isTs (by omega)).mono ?_
    rintro r w3 ⟨rfl, hb3⟩
    have HB3 := Lib.hid (below2 HB2.out hb3)
    have HO3 := Lib.hid (HO2.out.below hb3)
    clear hb3 HB1 HO1 HB2 HO2
    cases hv : svB ts
    · have HV := Lib.hid hv
      clear hv
      go_wp2_with fail
      refine (c_spec_SetValid A1 n1 c1 ts _ HO3.out.isTs (by omega)).mono ?_
      rintro r w4 ⟨rfl, hb4⟩
      have HB4 := Lib.hid (below2 HB3.out hb4)
      rw [HV.out]
      clear hb4
      go_wp2
      go_ret
      exact ⟨rfl, HB4.out⟩
    · have hl5 := svB_len hv
      have hn5 : n1 ≤ 5 := by have := HO3.out.1; omega
      have HOk : Hid (AllOk ts) := Lib.hid (fun k t ht => svB_ok hv ht)
      have HE := Lib.hid (OwnT.empty (e := 27) w3 HB3.out.size)
      have HBE := Lib.hid (below2 HB3.out (below_alloc (.cells #[] 27)))
      have HOe := Lib.hid (HO3.out.below (below_alloc (.cells #[] 27)))
      have hsz : w.heap.size ≤ w3.heap.size := HB3.out.size
      clear hv HB3 HO3
      cases A1 with
      | none =>
        obtain ⟨rfl, rfl, rfl⟩ := HOe.out.of_none
        go_wp2_with (at_builtin; refine wpList_append_own_none rfl (.tmp 25) (.tmp 26) 23 rfl w.heap.size 27 i0 5 Try.underlying23 HI.out.1 _ 0 [] rfl HE.out.2 rfl ?_)
        go_loopw [5] (fun u wr => ∃ (A4 : Option Addr) (k c4 : Nat) (us : List Tk), k ≤ 6 ∧ u = .slice A4 k c4 ∧ Below w.heap.size w wr ∧ OwnT wr w.heap.size 27 A4 k c4 us ∧ AllOk us) (fun u _ => 6 - lenV u)
        case atStart => exact ⟨_, 0, 0, [], by omega, rfl, HBE.out, HE.out, HOk.out⟩
        case round =>
          clear HE HBE HOe HOk
          obtain ⟨A5, k, c5, us, hk6, rfl, hb, ho, hok⟩ := hrel
          have HB := Lib.hid hb
          have HO := Lib.hid ho
          have HK := Lib.hid hok
          clear hb ho hok
          by_cases hlt : k ≤ 5
          · have hba := below_alloc (w := wr) (.cells #[.int .i64 1, .int .i64 1, .int .i64 2, .int .i64 2, .bool false] 27)
            have HBa := Lib.hid (below2 HB.out hba)
            have HOa := Lib.hid (HO.out.below hba)
            have HN := Lib.hid (Tk.news wr 27 filT)
            clear hba
            go_wp2_with (at_builtin; refine wpList_append_task rfl (.tmp 31) (.tmp 33) 23 rfl i0 Try.underlying23 HI.out.1 HI.out.2.1 HI.out.2.2.1 HI.out.2.2.2 rfl HOa.out (by omega) _ filT rfl HN.out HBa.out.size ?_; intro A6 c6 w6 ho6 hg6; have HO6 := Lib.hid ho6; have HG6 := Lib.hid hg6; clear ho6 hg6)
            go_roundw
            case rel => exact ⟨A6, k + 1, c6, _, by omega, rfl, own_below HBa.out HOa.out HG6.out HBa.out.size, HO6.out, HK.out.snoc⟩
            case measure => simp [lenV_slice]; omega
          · obtain rfl : k = 6 := by omega
            have hc6 := HO.out.cap
            have HF := Lib.hid (svB_not_len (ts := us) (by have := HO.out.1; omega))
            have HT := Lib.hid HK.out.five
            go_wp2_with fail
            refine (c_impl_SetValid A5 6 c5 us _ HO.out.isTs (by omega)).mono ?_
            rintro r w7 ⟨rfl, hb7⟩
            have HB7 := Lib.hid (below2 HB.out hb7)
            have HO7 := Lib.hid (HO.out.below hb7)
            rw [HF.out]
            clear hb7
            go_wp2_with fail
            refine (c_impl_SetValid A5 5 c5 (us.take 5) _ (HO7.out.isTs.take (by omega)) (by omega)).mono ?_
            rintro r w8 ⟨rfl, hb8⟩
            have HB8 := Lib.hid (below2 HB7.out hb8)
            rw [HT.out]
            clear hb8
            go_wp2
            go_ret
            exact ⟨rfl, HB8.out⟩
      | some ad =>
        obtain ⟨g, rfl⟩ := HOe.out.of_some
        go_wp2_with (first | (at_builtin; refine wpList_append_tasks rfl (.tmp 25) (.tmp 26) 23 rfl i0 Try.underlying23 HI.out.1 HI.out.2.1 HI.out.2.2.1 HI.out.2.2.2 rfl HE.out g 0 n1 c1 ts rfl (by omega) HOe.out.isTs (by simp; omega) n1 (by omega) ?_; intro A4 c4 w4 ho4 hg4; have HB4 := Lib.hid (own_below HBE.out HE.out hg4 HBE.out.size); have HO4 := Lib.hid ho4; clear ho4 hg4))
        go_loopw [5] (fun u wr => ∃ (A4 : Option Addr) (k c4 : Nat) (us : List Tk), k ≤ 6 ∧ u = .slice A4 k c4 ∧ Below w.heap.size w wr ∧ OwnT wr w.heap.size 27 A4 k c4 us ∧ AllOk us) (fun u _ => 6 - lenV u)
        case atStart => exact ⟨A4, n1, c4, ts, by omega, rfl, HB4.out, HO4.out, HOk.out⟩
        case round =>
          clear HE HBE HOe HOk HB4 HO4
          obtain ⟨A5, k, c5, us, hk6, rfl, hb, ho, hok⟩ := hrel
          have HB := Lib.hid hb
          have HO := Lib.hid ho
          have HK := Lib.hid hok
          clear hb ho hok
          by_cases hlt : k ≤ 5
          · have hba := below_alloc (w := wr) (.cells #[.int .i64 1, .int .i64 1, .int .i64 2, .int .i64 2, .bool false] 27)
            have HBa := Lib.hid (below2 HB.out hba)
            have HOa := Lib.hid (HO.out.below hba)
            have HN := Lib.hid (Tk.news wr 27 filT)
            clear hba
            go_wp2_with (at_builtin; refine wpList_append_task rfl (.tmp 31) (.tmp 33) 23 rfl i0 Try.underlying23 HI.out.1 HI.out.2.1 HI.out.2.2.1 HI.out.2.2.2 rfl HOa.out (by omega) _ filT rfl HN.out HBa.out.size ?_; intro A6 c6 w6 ho6 hg6; have HO6 := Lib.hid ho6; have HG6 := Lib.hid hg6; clear ho6 hg6)
            go_roundw
            case rel => exact ⟨A6, k + 1, c6, _, by omega, rfl, own_below HBa.out HOa.out HG6.out HBa.out.size, HO6.out, HK.out.snoc⟩
            case measure => simp [lenV_slice]; omega
          · obtain rfl : k = 6 := by omega
            have hc6 := HO.out.cap
            have HF := Lib.hid (svB_not_len (ts := us) (by have := HO.out.1; omega))
            have HT := Lib.hid HK.out.five
            go_wp2_with fail
            refine (c_impl_SetValid A5 6 c5 us _ HO.out.isTs (by omega)).mono ?_
            rintro r w7 ⟨rfl, hb7⟩
            have HB7 := Lib.hid (below2 HB.out hb7)
            have HO7 := Lib.hid (HO.out.below hb7)
            rw [HF.out]
            clear hb7
            go_wp2_with fail
            refine (c_impl_SetValid A5 5 c5 (us.take 5) _ (HO7.out.isTs.take (by omega)) (by omega)).mono ?_
            rintro r w8 ⟨rfl, hb8⟩
            have HB8 := Lib.hid (below2 HB7.out hb8)
            rw [HT.out]
            clear hb8
            go_wp2
            go_ret
            exact ⟨rfl, HB8.out⟩
end Go.Proofs.Ytjnmecfgbakkcaa
