/-
  The walk of the law that sets are read back (printed by gen_wsettext.py).
-/
import Derived.Test.YtncpnjnmljobgaaDoorPSetS
import Derived.Test.YtncpnjnmljobgaaDoorDrawQ
import Derived.Test.YtncpnjnmljobgaaDoorDm
namespace Go.Proofs.YtncpnjnmljobgaaDoor
set_option maxRecDepth 100000
open Go.RowKit
theorem parse_set_back (ts : List Tk) (hv : svB ts = true) (W : World) (hE : Env W) : Calls Tryd.prog 17 #[.string (bs (fmtSet ts))] W fun r W' => ∃ A n c, r = .returned (.tuple #[.slice A n c, .bool true]) ∧ Below W.heap.size W W' ∧ IsTs W' A n ts ∧ n ≤ 5 := by
  refine (c_impl_ParseSet _ W hE (by have := fmtSet_short ts; omega)).mono ?_
  rintro r W' ⟨A, n, c, ts', b, rfl, hb, ho, hn, hp⟩
  rw [bsD] at hp
  obtain ⟨rfl, rfl⟩ := hp.same (.inl ⟨rfl, hv, rfl⟩)
  exact ⟨A, n, c, rfl, hb, ho.isTs, hn⟩
set_option maxHeartbeats 8000000 in
theorem w_FnSetText (A : Option Addr) (n c : Nat) (A' : Option Addr) (n' c' : Nat) (w : World) (hm : n ≤ maxLen) (hcode : IsBytes w A n c) (hm' : n' ≤ maxLen) (hmore : IsBytes w A' n' c') (hE : Env w) : Calls Tryd.prog 5 #[.slice A n c, .slice A' n' c'] w (Ret w (.bool true)) := by
  unfold maxLen at hm hm'
  have HC := Lib.hid hcode
  have HM := Lib.hid hmore
  have HE := Lib.hid hE
  clear hcode hmore hE
  by_cases hn : 1048576 < n
  · go_enter Tryd.func5, Tryd.ntmps5
    go_wp2
    go_ret
    exact ⟨rfl, Below.refl _ _⟩
  by_cases hn' : 1048576 < n'
  · go_enter Tryd.func5, Tryd.ntmps5
    go_wp2
    go_ret
    exact ⟨rfl, Below.refl _ _⟩
  go_enter Tryd.func5, Tryd.ntmps5
  go_wp2_with fail
  refine (c_spec_DrawFormatSet A n c _ HC.out (by omega)).mono ?_
  rintro r w1 ⟨A1, n1, c1, ts, rfl, hn1, hnc1, hb1, hi1⟩
  have HB1 := Lib.hid hb1
  have HI1 := Lib.hid hi1
  clear hb1 hi1 hnc1
  have CI := Lib.hid (fun W (h : IsTs W A1 n1 ts) => c_impl_FormatSet A1 n1 c1 ts W h (by omega))
  have CS := Lib.hid (fun W (h : IsTs W A1 n1 ts) => c_spec_FormatSet A1 n1 c1 ts W h (by omega))
  have CV := Lib.hid (fun W (h : IsTs W A1 n1 ts) => c_impl_SetValid A1 n1 c1 ts W h (by omega))
  have CW := Lib.hid (fun W (h : IsTs W A1 n1 ts) => c_spec_SetValid A1 n1 c1 ts W h (by omega))
  cases hv : svB ts
  · have HV := Lib.hid hv
    have PB := Lib.hid (parse_set_back ts)
    rw [hv] at CV CW
    clear hv
    generalize bs (fmtSet ts) = s at CI CS PB
    go_wp2_with fail
    refine (CI.out _ HI1.out).mono ?_
    rintro r w2 ⟨rfl, hb2⟩
    have HB2 := Lib.hid (below2 HB1.out hb2)
    have HI2 := Lib.hid (HI1.out.below hb2)
    clear hb2 HI1
    go_wp2_with fail
    refine (CS.out _ HI2.out).mono ?_
    rintro r w3 ⟨rfl, hb3⟩
    have HB3 := Lib.hid (below2 HB2.out hb3)
    have HI3 := Lib.hid (HI2.out.below hb3)
    clear hb3 HI2
    go_wp2_with fail
    refine (CV.out _ HI3.out).mono ?_
    rintro r w4 ⟨rfl, hb4⟩
    have HB4 := Lib.hid (below2 HB3.out hb4)
    have HI4 := Lib.hid (HI3.out.below hb4)
    clear hb4 HI3
    go_wp2_with fail
    refine (CW.out _ HI4.out).mono ?_
    rintro r w5 ⟨rfl, hb5⟩
    have HB5 := Lib.hid (below2 HB4.out hb5)
    have HI5 := Lib.hid (HI4.out.below hb5)
    clear hb5 HI4
    go_wp2_with fail
    refine (CV.out _ HI5.out).mono ?_
    rintro r w6 ⟨rfl, hb6⟩
    have HB6 := Lib.hid (below2 HB5.out hb6)
    have HI6 := Lib.hid (HI5.out.below hb6)
    clear hb6 HI5
    go_wp2_with fail
    refine (c_DrawParseSet A' n' c' _ (HM.out.below HB6.out) (by omega)).mono ?_
    rintro r w17 ⟨_, ⟨x, rfl, hx⟩, rfl, hb17⟩
    have HB17 := Lib.hid (below2 HB6.out hb17)
    clear hb17 CI CS CV CW
    have PI := Lib.hid (fun W (h : Env W) => c_impl_ParseSet x W h (by omega))
    have PS := Lib.hid (fun W => c_spec_ParseSet x W (by omega))
    go_wp2_with fail
    refine (PI.out _ (HE.out.below HB17.out)).mono ?_
    rintro r w18 ⟨A18, n18, c18, us, b, rfl, hb18, ho18, hn18, hp18⟩
    have HB18 := Lib.hid (below2 HB17.out hb18)
    have HP18 := Lib.hid hp18
    have HO18 := Lib.hid ho18.isTs
    clear hb18 hp18 ho18
    go_wp2_with fail
    refine (PS.out _).mono ?_
    rintro r w19 ⟨A19, n19, c19, us', b', rfl, hb19, ho19, hn19, hp19⟩
    obtain ⟨rfl, rfl⟩ := HP18.out.same hp19
    have HB19 := Lib.hid (below2 HB18.out hb19)
    have HP19 := Lib.hid hp19
    have HO19 := Lib.hid (HO18.out.below hb19)
    have HQ19 := Lib.hid ho19.isTs
    clear hb19 hp19 ho19 HO18
    go_wp2_with fail
    refine (c_dmTasks A18 A19 n18 n19 c18 c19 us _ HO19.out HQ19.out (by omega)).mono ?_
    rintro r w20 ⟨rfl, hb20⟩
    have HB20 := Lib.hid (below2 HB19.out hb20)
    have HO20 := Lib.hid (HO19.out.below hb20)
    clear hb20 HO19 HQ19
    cases b
    · go_wp2
      go_ret
      exact ⟨rfl, HB20.out⟩
    · have CL := Lib.hid (fun W (h : IsTs W A18 n18 us) => c_impl_FormatSet A18 n18 c18 us W h (by omega))
      have heq : bs (fmtSet us) = x := by
        rcases HP19.out with ⟨_, _, h3⟩ | ⟨h1, _⟩
        · rw [h3]; exact bs_list x
        · cases h1
      rw [heq] at CL
      clear heq
      go_wp2_with fail
      refine (CL.out _ HO20.out).mono ?_
      rintro r w21 ⟨rfl, hb21⟩
      have HB21 := Lib.hid (below2 HB20.out hb21)
      clear hb21
      go_wp2
      go_ret
      exact ⟨rfl, HB21.out⟩
  · have HV := Lib.hid hv
    have PB := Lib.hid (parse_set_back ts)
    rw [hv] at CV CW
    clear hv
    generalize bs (fmtSet ts) = s at CI CS PB
    go_wp2_with fail
    refine (CI.out _ HI1.out).mono ?_
    rintro r w2 ⟨rfl, hb2⟩
    have HB2 := Lib.hid (below2 HB1.out hb2)
    have HI2 := Lib.hid (HI1.out.below hb2)
    clear hb2 HI1
    go_wp2_with fail
    refine (CS.out _ HI2.out).mono ?_
    rintro r w3 ⟨rfl, hb3⟩
    have HB3 := Lib.hid (below2 HB2.out hb3)
    have HI3 := Lib.hid (HI2.out.below hb3)
    clear hb3 HI2
    go_wp2_with fail
    refine (CV.out _ HI3.out).mono ?_
    rintro r w4 ⟨rfl, hb4⟩
    have HB4 := Lib.hid (below2 HB3.out hb4)
    have HI4 := Lib.hid (HI3.out.below hb4)
    clear hb4 HI3
    go_wp2_with fail
    refine (CW.out _ HI4.out).mono ?_
    rintro r w5 ⟨rfl, hb5⟩
    have HB5 := Lib.hid (below2 HB4.out hb5)
    have HI5 := Lib.hid (HI4.out.below hb5)
    clear hb5 HI4
    go_wp2_with fail
    refine (CV.out _ HI5.out).mono ?_
    rintro r w6 ⟨rfl, hb6⟩
    have HB6 := Lib.hid (below2 HB5.out hb6)
    have HI6 := Lib.hid (HI5.out.below hb6)
    clear hb6 HI5
    go_wp2_with fail
    refine (PB.out HV.out _ (HE.out.below HB6.out)).mono ?_
    rintro r w7 ⟨A7, n7, c7, rfl, hb7, hi7, hn7⟩
    have HB7 := Lib.hid (below2 HB6.out hb7)
    have HI7 := Lib.hid (HI6.out.below hb7)
    have HQ7 := Lib.hid hi7
    clear hb7 hi7 HI6
    go_wp2_with fail
    refine (c_dmTasks A7 A1 n7 n1 c7 c1 ts _ HQ7.out HI7.out (by omega)).mono ?_
    rintro r w8 ⟨rfl, hb8⟩
    have HB8 := Lib.hid (below2 HB7.out hb8)
    clear hb8 HQ7 HI7
    go_wp2_with fail
    refine (c_DrawParseSet A' n' c' _ (HM.out.below HB8.out) (by omega)).mono ?_
    rintro r w17 ⟨_, ⟨x, rfl, hx⟩, rfl, hb17⟩
    have HB17 := Lib.hid (below2 HB8.out hb17)
    clear hb17 CI CS CV CW
    have PI := Lib.hid (fun W (h : Env W) => c_impl_ParseSet x W h (by omega))
    have PS := Lib.hid (fun W => c_spec_ParseSet x W (by omega))
    go_wp2_with fail
    refine (PI.out _ (HE.out.below HB17.out)).mono ?_
    rintro r w18 ⟨A18, n18, c18, us, b, rfl, hb18, ho18, hn18, hp18⟩
    have HB18 := Lib.hid (below2 HB17.out hb18)
    have HP18 := Lib.hid hp18
    have HO18 := Lib.hid ho18.isTs
    clear hb18 hp18 ho18
    go_wp2_with fail
    refine (PS.out _).mono ?_
    rintro r w19 ⟨A19, n19, c19, us', b', rfl, hb19, ho19, hn19, hp19⟩
    obtain ⟨rfl, rfl⟩ := HP18.out.same hp19
    have HB19 := Lib.hid (below2 HB18.out hb19)
    have HP19 := Lib.hid hp19
    have HO19 := Lib.hid (HO18.out.below hb19)
    have HQ19 := Lib.hid ho19.isTs
    clear hb19 hp19 ho19 HO18
    go_wp2_with fail
    refine (c_dmTasks A18 A19 n18 n19 c18 c19 us _ HO19.out HQ19.out (by omega)).mono ?_
    rintro r w20 ⟨rfl, hb20⟩
    have HB20 := Lib.hid (below2 HB19.out hb20)
    have HO20 := Lib.hid (HO19.out.below hb20)
    clear hb20 HO19 HQ19
    cases b
    · go_wp2
      go_ret
      exact ⟨rfl, HB20.out⟩
    · have CL := Lib.hid (fun W (h : IsTs W A18 n18 us) => c_impl_FormatSet A18 n18 c18 us W h (by omega))
      have heq : bs (fmtSet us) = x := by
        rcases HP19.out with ⟨_, _, h3⟩ | ⟨h1, _⟩
        · rw [h3]; exact bs_list x
        · cases h1
      rw [heq] at CL
      clear heq
      go_wp2_with fail
      refine (CL.out _ HO20.out).mono ?_
      rintro r w21 ⟨rfl, hb21⟩
      have HB21 := Lib.hid (below2 HB20.out hb21)
      clear hb21
      go_wp2
      go_ret
      exact ⟨rfl, HB21.out⟩
end Go.Proofs.YtncpnjnmljobgaaDoor
