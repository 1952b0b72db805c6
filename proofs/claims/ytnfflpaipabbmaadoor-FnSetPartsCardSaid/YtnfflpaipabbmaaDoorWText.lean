/-
  The walks of the laws on the text of a task.
-/
import Derived.Test.YtnfflpaipabbmaaDoorText2
import Derived.Test.YtnfflpaipabbmaaDoorDraw3
namespace Go.Proofs.YtnfflpaipabbmaaDoor
set_option maxRecDepth 100000
open Go.RowKit
set_option maxHeartbeats 1000000 in
theorem w_FnExactFormatTask (l h d e : Int) (c : Bool) (w : World) : Calls Tryd.prog 3 #[.agg #[.int .i64 l, .int .i64 h, .int .i64 d, .int .i64 e, .bool c]] w (Ret w (.bool true)) := by
  have CI := Lib.hid (c_impl_FormatTask l h d e c)
  have CS := Lib.hid (c_spec_FormatTask l h d e c)
  generalize bs (fmtT ⟨l, h, d, e, c⟩) = s at CI CS
  go_enter Tryd.func3, Tryd.ntmps3
  go_wp2_with fail
  refine (c_toTask _ _ _ _ _ _).mono ?_
  rintro r w1 ⟨rfl, hb1⟩
  obtain ⟨hc1, hf1⟩ := bcell hb1
  go_wp2_with fail
  refine (CS.out _).mono ?_
  rintro r w2 ⟨rfl, hb2⟩
  clear hc1 hf1
  obtain ⟨hc2, hf2⟩ := bcell (below2 hb1 hb2)
  go_wp2_with fail
  refine (c_toTask _ _ _ _ _ _).mono ?_
  rintro r w3 ⟨rfl, hb3⟩
  clear hc2 hf2
  go_wp2_with fail
  refine (CI.out _).mono ?_
  rintro r w4 ⟨rfl, hb4⟩
  go_wp2
  go_ret
  exact ⟨rfl, below2 (below_alloc _) (below2 hb1 (below2 hb2 (below2 hb3 hb4)))⟩
theorem c_DrawFormatTask (A : Option Addr) (n c : Nat) (w : World) (h : IsBytes w A n c) (hn : n ≤ 1048576) :
    Calls Tryd.prog 19 #[.slice A n c] w (GotV w TaskV) := by
  have H := Lib.hid (h.below (below_alloc (.cells #[.int .i64 0, .int .i64 0, .int .i64 0, .int .i64 0, .bool false] 25)))
  clear h
  go_enter Tryd.func19, Tryd.ntmps19
  go_wp2_with fail
  refine (c_DrawTaskValid A n c _ H.out hn).mono ?_
  rintro r w1 ⟨v, ⟨l, h, d, e, cr, rfl⟩, rfl, hb1⟩
  obtain ⟨hc1, hf1⟩ := bcell hb1
  have hz1 := lt1 hb1
  have hB := below2 (below_alloc _) hb1
  go_wp2
  refine bodyPost_ret (v := .agg #[.int .i64 l, .int .i64 h, .int .i64 d, .int .i64 e, .bool cr]) (by simp [results, Tryd.results19, go_sem, hc1]) rfl ⟨_, ⟨_, _, _, _, _, rfl⟩, rfl, ?_⟩
  go_grown
theorem bs_toList (l : List UInt8) : (bs l).toList = l := ByteArray.toList_mk l
theorem fmtT_cons {t : Tk} (h : t.ok = true) : ∃ a l, fmtT t = a :: l := by
  rw [fmtT_yes h]
  unfold fmtL
  cases hq : dec t.low with
  | nil => exact absurd hq (dec_ne t.low)
  | cons a b => exact ⟨a, _, by rw [List.cons_append]⟩
theorem fmtT_ne {t : Tk} (h : t.ok = true) : ∃ s : ByteArray, bs (fmtT t) = s ∧ s.toList.isEmpty = false ∧ (!s.toList.isEmpty) = true := by
  obtain ⟨a, l, e⟩ := fmtT_cons h
  exact ⟨_, rfl, by rw [bs_toList, e]; rfl, by rw [bs_toList, e]; rfl⟩
set_option maxHeartbeats 2000000 in
theorem w_FnTaskLow (A : Option Addr) (n c : Nat) (w : World) (hm : n ≤ maxLen) (h : IsBytes w A n c) : Calls Tryd.prog 6 #[.slice A n c] w (Ret w (.bool true)) := by
  unfold maxLen at hm
  by_cases hn : 1048576 < n
  · go_enter Tryd.func6, Tryd.ntmps6
    go_wp2
    go_ret
    exact ⟨rfl, Below.refl _ _⟩
  · go_enter Tryd.func6, Tryd.ntmps6
    go_wp2_with fail
    refine (c_DrawFormatTask A n c w h (by omega)).mono ?_
    rintro r w1 ⟨v, ⟨l, h, d, e, cr, rfl⟩, rfl, hb1⟩
    have HB1 := Lib.hid hb1
    clear hb1
    cases hv : tvB l h d e cr
    · have CI := Lib.hid (c_impl_FormatTask l h d e cr)
      have CS := Lib.hid (c_spec_FormatTask l h d e cr)
      rw [fmtT_no (t := ⟨l, h, d, e, cr⟩) hv, show bs [] = { data := #[] } from rfl] at CI CS
      clear hv
      have F1 := Five.new w1 25 (.int .i64 l) (.int .i64 h) (.int .i64 d) (.int .i64 e) (.bool cr)
      go_wp2_with fail
      refine (CI.out _).mono ?_
      rintro r w2 ⟨rfl, hb2⟩
      have F2 := F1.below hb2
      have HB2 := Lib.hid (below2 HB1.out (below2 (below_alloc _) hb2))
      clear hb2 F1
      obtain ⟨k0, k1, k2, k3, k4, k5⟩ := F2
      go_wp2_with fail
      refine (CS.out _).mono ?_
      rintro r w3 ⟨rfl, hb3⟩
      have F3 := Five.below ⟨k0, k1, k2, k3, k4, k5⟩ hb3
      have HB3 := Lib.hid (below2 HB2.out hb3)
      clear hb3 k0 k1 k2 k3 k4 k5
      generalize w1.heap.size = B at *
      obtain ⟨k0, k1, k2, k3, k4, k5⟩ := F3
      go_wp2_with fail
      refine (CS.out _).mono ?_
      rintro r w4 ⟨rfl, hb4⟩
      have HB4 := Lib.hid (below2 HB3.out hb4)
      clear hb4
      go_wp2
      go_ret
      exact ⟨rfl, HB4.out⟩
    · have hvx : tvB 0 h d e cr = false := by
        cases hq : tvB 0 h d e cr
        · rfl
        · have := tvB_true hq; omega
      have hvy : tvB 1 h d e true = true := by
        have := tvB_true hv
        exact tvB_mk ⟨by omega, by omega, by omega, by omega, by omega, .inl rfl⟩
      obtain ⟨s, es, s1, s2⟩ := fmtT_ne (t := ⟨l, h, d, e, cr⟩) hv
      obtain ⟨y, ey, y1, y2⟩ := fmtT_ne (t := ⟨1, h, d, e, true⟩) hvy
      have CI := Lib.hid (c_impl_FormatTask l h d e cr)
      have CS := Lib.hid (c_spec_FormatTask l h d e cr)
      have CX := Lib.hid (c_impl_FormatTask 0 h d e cr)
      have CY := Lib.hid (c_impl_FormatTask 1 h d e true)
      rw [es] at CI CS
      rw [ey] at CY
      rw [fmtT_no (t := ⟨0, h, d, e, cr⟩) hvx, show bs [] = { data := #[] } from rfl] at CX
      clear hv hvx hvy es ey
      have F1 := Five.new w1 25 (.int .i64 l) (.int .i64 h) (.int .i64 d) (.int .i64 e) (.bool cr)
      go_wp2_with fail
      refine (CI.out _).mono ?_
      rintro r w2 ⟨rfl, hb2⟩
      have F2 := F1.below hb2
      have HB2 := Lib.hid (below2 HB1.out (below2 (below_alloc _) hb2))
      clear hb2 F1
      obtain ⟨k0, k1, k2, k3, k4, k5⟩ := F2
      go_wp2_with fail
      refine (CS.out _).mono ?_
      rintro r w3 ⟨rfl, hb3⟩
      have F3 := Five.below ⟨k0, k1, k2, k3, k4, k5⟩ hb3
      have HB3 := Lib.hid (below2 HB2.out hb3)
      clear hb3 k0 k1 k2 k3 k4 k5
      generalize w1.heap.size = B at *
      obtain ⟨k0, k1, k2, k3, k4, k5⟩ := F3
      go_wp2_with fail
      have F4 := Five.new (w3.alloc (.cells #[.int .i64 0, .int .i64 h, .int .i64 d, .int .i64 e, .bool cr] 25)) 25 (.int .i64 1) (.int .i64 h) (.int .i64 d) (.int .i64 e) (.bool true)
      rw [World.size_alloc] at F4
      refine (CX.out _).mono ?_
      rintro r w4 ⟨rfl, hb4⟩
      have F5 := F4.below hb4
      have HB4 := Lib.hid (below2 HB3.out (below2 (below2 (below_alloc _) (below_alloc _)) hb4))
      clear hb4 F4 k0 k1 k2 k3 k4 k5
      generalize w3.heap.size + 1 = B2 at *
      obtain ⟨k0, k1, k2, k3, k4, k5⟩ := F5
      go_wp2_with fail
      refine (CY.out _).mono ?_
      rintro r w5 ⟨rfl, hb5⟩
      have HB5 := Lib.hid (below2 HB4.out hb5)
      clear hb5 k0 k1 k2 k3 k4 k5
      go_wp2
      go_ret
      exact ⟨rfl, HB5.out⟩
end Go.Proofs.YtnfflpaipabbmaaDoor
