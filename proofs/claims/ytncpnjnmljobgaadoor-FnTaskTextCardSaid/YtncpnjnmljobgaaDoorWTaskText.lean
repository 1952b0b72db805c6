/-
  The walk of the law that formatting and parsing of tasks are inverse.
-/
import Derived.Test.YtncpnjnmljobgaaDoorPImplT
import Derived.Test.YtncpnjnmljobgaaDoorDrawP
import Derived.Test.YtncpnjnmljobgaaDoorWText
namespace Go.Proofs.YtncpnjnmljobgaaDoor
set_option maxRecDepth 100000
open Go.RowKit
theorem fmtT_small (t : Tk) : (bs (fmtT t)).size ≤ 1048576 := by
  rw [bs_size]
  cases hv : t.ok
  · rw [fmtT_no hv]; decide
  · have := fmtT_len hv; omega
theorem fmtT_no_nil {t : Tk} (h : t.ok = true) : fmtT t ≠ [] := by
  rw [fmtT_yes h]
  unfold fmtL
  cases hq : dec t.low with
  | nil => exact absurd hq (dec_ne t.low)
  | cons a b => intro hh; cases hh
theorem parse_back (l h d e : Int) (c : Bool) (ht : tvB l h d e c = true) (W : World) (hE : Env W) : Calls Tryd.prog 10 #[.string (bs (fmtT ⟨l, h, d, e, c⟩))] W (Ret W (.tuple #[.agg #[.int .i64 l, .int .i64 h, .int .i64 d, .int .i64 e, .bool c], .bool true])) := by
  refine (c_impl_ParseTask _ W hE (fmtT_small _)).mono ?_
  rintro r W' ⟨t, b, rfl, hb, hp⟩
  rw [bsD] at hp
  obtain ⟨rfl, rfl⟩ := hp.same (t' := ⟨l, h, d, e, c⟩) (.inl ⟨rfl, ht, rfl⟩)
  exact ⟨rfl, hb⟩
theorem parse_none (l h d e : Int) (c : Bool) (ht : tvB l h d e c = false) (W : World) (hE : Env W) : Calls Tryd.prog 10 #[.string (bs (fmtT ⟨l, h, d, e, c⟩))] W (Ret W (.tuple #[.agg #[.int .i64 0, .int .i64 0, .int .i64 0, .int .i64 0, .bool false], .bool false])) := by
  refine (c_impl_ParseTask _ W hE (fmtT_small _)).mono ?_
  rintro r W' ⟨t, b, rfl, hb, hp⟩
  rw [bsD] at hp
  obtain ⟨rfl, rfl⟩ := hp.same (isP_no fun u hu hl => by
    rw [fmtT_no (t := ⟨l, h, d, e, c⟩) ht] at hl
    exact fmtT_no_nil hu hl)
  exact ⟨rfl, hb⟩
set_option maxHeartbeats 8000000 in
theorem w_FnTaskText (A : Option Addr) (n c : Nat) (A' : Option Addr) (n' c' : Nat) (w : World) (hm : n ≤ maxLen) (hcode : IsBytes w A n c) (hm' : n' ≤ maxLen) (hmore : IsBytes w A' n' c') (hE : Env w) : Calls Tryd.prog 3 #[.slice A n c, .slice A' n' c'] w (Ret w (.bool true)) := by
  unfold maxLen at hm hm'
  have HC := Lib.hid hcode
  have HM := Lib.hid hmore
  have HE := Lib.hid hE
  clear hcode hmore hE
  by_cases hn : 1048576 < n
  · go_enter Tryd.func3, Tryd.ntmps3
    go_wp2
    go_ret
    exact ⟨rfl, Below.refl _ _⟩
  by_cases hn' : 1048576 < n'
  · go_enter Tryd.func3, Tryd.ntmps3
    go_wp2
    go_ret
    exact ⟨rfl, Below.refl _ _⟩
  go_enter Tryd.func3, Tryd.ntmps3
  go_wp2_with fail
  refine (c_DrawFormatTask A n c _ HC.out (by omega)).mono ?_
  rintro r w1 ⟨v, ⟨l, h, d, e, cr, rfl⟩, rfl, hb1⟩
  have HB1 := Lib.hid hb1
  have F1 := Five.new w1 24 (.int .i64 l) (.int .i64 h) (.int .i64 d) (.int .i64 e) (.bool cr)
  clear hb1
  have CF := Lib.hid (c_impl_FormatTask l h d e cr)
  have CG := Lib.hid (c_spec_FormatTask l h d e cr)
  have CV := Lib.hid (c_impl_TaskValid l h d e cr)
  have CW := Lib.hid (c_spec_TaskValid l h d e cr)
  cases hv : tvB l h d e cr
  · rw [hv] at CV CW
    have CP := Lib.hid (parse_none l h d e cr hv)
    clear hv
    generalize bs (fmtT ⟨l, h, d, e, cr⟩) = s at CF CG CP
    go_wp2_with fail
    refine (CF.out _).mono ?_
    rintro r w2 ⟨rfl, hb2⟩
    have F2 := F1.below hb2
    have HB2 := Lib.hid (below2 HB1.out (below2 (below_alloc _) hb2))
    clear hb2 F1
    go_wp2_with fail
    refine (CP.out _ (HE.out.below HB2.out)).mono ?_
    rintro r w3 ⟨rfl, hb3⟩
    have F3 := F2.below hb3
    have HB3 := Lib.hid (below2 HB2.out hb3)
    have G3 := Five.new w3 24 (.int .i64 0) (.int .i64 0) (.int .i64 0) (.int .i64 0) (.bool false)
    clear hb3 F2
    generalize w1.heap.size = B1 at *
    have F3' := F3.below (below_alloc (.cells #[.int .i64 0, .int .i64 0, .int .i64 0, .int .i64 0, .bool false] 24))
    obtain ⟨k0, k1, k2, k3, k4, k5⟩ := F3
    go_wp2_with fail
    refine (CV.out _).mono ?_
    rintro r w4 ⟨rfl, hb4⟩
    have F4 := F3'.below hb4
    have G4 := G3.below hb4
    have HB4 := Lib.hid (below2 HB3.out (below2 (below_alloc _) hb4))
    clear hb4 F3' G3 k0 k1 k2 k3 k4 k5
    generalize w3.heap.size = B2 at *
    have F4h := Lib.hid F4
    have G4h := Lib.hid G4
    obtain ⟨k0, k1, k2, k3, k4, k5⟩ := F4
    obtain ⟨g0, g1, g2, g3, g4, g5⟩ := G4
    go_wp2_with fail
    refine (CG.out _).mono ?_
    rintro r w5 ⟨rfl, hb5⟩
    have F5 := F4h.out.below hb5
    have G5 := G4h.out.below hb5
    have HB5 := Lib.hid (below2 HB4.out hb5)
    clear hb5 F4h G4h k0 k1 k2 k3 k4 k5 g0 g1 g2 g3 g4 g5
    have F5h := Lib.hid F5
    have G5h := Lib.hid G5
    obtain ⟨k0, k1, k2, k3, k4, k5⟩ := F5
    obtain ⟨g0, g1, g2, g3, g4, g5⟩ := G5
    go_wp2_with fail
    refine (CW.out _).mono ?_
    rintro r w6 ⟨rfl, hb6⟩
    have F6 := F5h.out.below hb6
    have G6 := G5h.out.below hb6
    have HB6 := Lib.hid (below2 HB5.out hb6)
    clear hb6 F5h G5h k0 k1 k2 k3 k4 k5 g0 g1 g2 g3 g4 g5
    obtain ⟨k0, k1, k2, k3, k4, k5⟩ := F6
    obtain ⟨g0, g1, g2, g3, g4, g5⟩ := G6
    go_wp2_with fail
    refine (c_DrawParseTask A' n' c' _ (HM.out.below HB6.out) (by omega)).mono ?_
    rintro r w7 ⟨_, ⟨x, rfl, hx⟩, rfl, hb7⟩
    have HB7 := Lib.hid (below2 HB6.out hb7)
    clear hb7 k0 k1 k2 k3 k4 k5 g0 g1 g2 g3 g4 g5 CF CG CV CW CP
    have CI := Lib.hid (fun W (h : Env W) => c_impl_ParseTask x W h (by omega))
    have CS := Lib.hid (fun W => c_spec_ParseTask x W (by omega))
    go_wp2_with fail
    refine (CI.out _ (HE.out.below HB7.out)).mono ?_
    rintro r w8 ⟨⟨l', h', d', e', q⟩, b, rfl, hb8, hp8⟩
    have HB8 := Lib.hid (below2 HB7.out hb8)
    have HP8 := Lib.hid hp8
    have G8 := Five.new w8 24 (.int .i64 l') (.int .i64 h') (.int .i64 d') (.int .i64 e') (.bool q)
    clear hb8 hp8
    go_wp2_with fail
    refine (CS.out _).mono ?_
    rintro r w9 ⟨t', b', rfl, hb9, hp9⟩
    obtain ⟨rfl, rfl⟩ := HP8.out.same hp9
    have G9 := G8.below hb9
    have HB9 := Lib.hid (below2 HB8.out (below2 (below_alloc _) hb9))
    clear hb9 hp9 G8
    generalize w8.heap.size = B3 at *
    obtain ⟨k0, k1, k2, k3, k4, k5⟩ := G9
    cases b
    · go_wp2
      go_ret
      exact ⟨rfl, below2 HB9.out (below_alloc _)⟩
    · have CL := Lib.hid (c_impl_FormatTask l' h' d' e' q)
      have heq : bs (fmtT ⟨l', h', d', e', q⟩) = x := by
        rcases HP8.out with ⟨_, _, h3⟩ | ⟨h1, _⟩
        · rw [h3]; exact bs_list x
        · cases h1
      rw [heq] at CL
      clear heq
      go_wp2_with fail
      refine (CL.out _).mono ?_
      rintro r w10 ⟨rfl, hb10⟩
      have HB10 := Lib.hid (below2 HB9.out (below2 (below_alloc _) hb10))
      clear hb10
      go_wp2
      go_ret
      exact ⟨rfl, HB10.out⟩
  · rw [hv] at CV CW
    have CP := Lib.hid (parse_back l h d e cr hv)
    clear hv
    generalize bs (fmtT ⟨l, h, d, e, cr⟩) = s at CF CG CP
    go_wp2_with fail
    refine (CF.out _).mono ?_
    rintro r w2 ⟨rfl, hb2⟩
    have F2 := F1.below hb2
    have HB2 := Lib.hid (below2 HB1.out (below2 (below_alloc _) hb2))
    clear hb2 F1
    go_wp2_with fail
    refine (CP.out _ (HE.out.below HB2.out)).mono ?_
    rintro r w3 ⟨rfl, hb3⟩
    have F3 := F2.below hb3
    have HB3 := Lib.hid (below2 HB2.out hb3)
    have G3 := Five.new w3 24 (.int .i64 l) (.int .i64 h) (.int .i64 d) (.int .i64 e) (.bool cr)
    clear hb3 F2
    generalize w1.heap.size = B1 at *
    have F3' := F3.below (below_alloc (.cells #[.int .i64 l, .int .i64 h, .int .i64 d, .int .i64 e, .bool cr] 24))
    obtain ⟨k0, k1, k2, k3, k4, k5⟩ := F3
    go_wp2_with fail
    refine (CV.out _).mono ?_
    rintro r w4 ⟨rfl, hb4⟩
    have F4 := F3'.below hb4
    have G4 := G3.below hb4
    have HB4 := Lib.hid (below2 HB3.out (below2 (below_alloc _) hb4))
    clear hb4 F3' G3 k0 k1 k2 k3 k4 k5
    generalize w3.heap.size = B2 at *
    have F4h := Lib.hid F4
    have G4h := Lib.hid G4
    obtain ⟨k0, k1, k2, k3, k4, k5⟩ := F4
    obtain ⟨g0, g1, g2, g3, g4, g5⟩ := G4
    go_wp2_with fail
    refine (CG.out _).mono ?_
    rintro r w5 ⟨rfl, hb5⟩
    have F5 := F4h.out.below hb5
    have G5 := G4h.out.below hb5
    have HB5 := Lib.hid (below2 HB4.out hb5)
    clear hb5 F4h G4h k0 k1 k2 k3 k4 k5 g0 g1 g2 g3 g4 g5
    have F5h := Lib.hid F5
    have G5h := Lib.hid G5
    obtain ⟨k0, k1, k2, k3, k4, k5⟩ := F5
    obtain ⟨g0, g1, g2, g3, g4, g5⟩ := G5
    go_wp2_with fail
    refine (CW.out _).mono ?_
    rintro r w6 ⟨rfl, hb6⟩
    have F6 := F5h.out.below hb6
    have G6 := G5h.out.below hb6
    have HB6 := Lib.hid (below2 HB5.out hb6)
    clear hb6 F5h G5h k0 k1 k2 k3 k4 k5 g0 g1 g2 g3 g4 g5
    obtain ⟨k0, k1, k2, k3, k4, k5⟩ := F6
    obtain ⟨g0, g1, g2, g3, g4, g5⟩ := G6
    go_wp2_with fail
    refine (c_DrawParseTask A' n' c' _ (HM.out.below HB6.out) (by omega)).mono ?_
    rintro r w7 ⟨_, ⟨x, rfl, hx⟩, rfl, hb7⟩
    have HB7 := Lib.hid (below2 HB6.out hb7)
    clear hb7 k0 k1 k2 k3 k4 k5 g0 g1 g2 g3 g4 g5 CF CG CV CW CP
    have CI := Lib.hid (fun W (h : Env W) => c_impl_ParseTask x W h (by omega))
    have CS := Lib.hid (fun W => c_spec_ParseTask x W (by omega))
    go_wp2_with fail
    refine (CI.out _ (HE.out.below HB7.out)).mono ?_
    rintro r w8 ⟨⟨l', h', d', e', q⟩, b, rfl, hb8, hp8⟩
    have HB8 := Lib.hid (below2 HB7.out hb8)
    have HP8 := Lib.hid hp8
    have G8 := Five.new w8 24 (.int .i64 l') (.int .i64 h') (.int .i64 d') (.int .i64 e') (.bool q)
    clear hb8 hp8
    go_wp2_with fail
    refine (CS.out _).mono ?_
    rintro r w9 ⟨t', b', rfl, hb9, hp9⟩
    obtain ⟨rfl, rfl⟩ := HP8.out.same hp9
    have G9 := G8.below hb9
    have HB9 := Lib.hid (below2 HB8.out (below2 (below_alloc _) hb9))
    clear hb9 hp9 G8
    generalize w8.heap.size = B3 at *
    obtain ⟨k0, k1, k2, k3, k4, k5⟩ := G9
    cases b
    · go_wp2
      go_ret
      exact ⟨rfl, below2 HB9.out (below_alloc _)⟩
    · have CL := Lib.hid (c_impl_FormatTask l' h' d' e' q)
      have heq : bs (fmtT ⟨l', h', d', e', q⟩) = x := by
        rcases HP8.out with ⟨_, _, h3⟩ | ⟨h1, _⟩
        · rw [h3]; exact bs_list x
        · cases h1
      rw [heq] at CL
      clear heq
      go_wp2_with fail
      refine (CL.out _).mono ?_
      rintro r w10 ⟨rfl, hb10⟩
      have HB10 := Lib.hid (below2 HB9.out (below2 (below_alloc _) hb10))
      clear hb10
      go_wp2
      go_ret
      exact ⟨rfl, HB10.out⟩
end Go.Proofs.YtncpnjnmljobgaaDoor
