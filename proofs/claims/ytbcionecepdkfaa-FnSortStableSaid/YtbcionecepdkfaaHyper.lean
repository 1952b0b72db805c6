/-
  Contracts of HyperOf.
-/
import Derived.Test.YtbcionecepdkfaaList
import Derived.Test.YtbcionecepdkfaaShare
import Derived.Test.YtbcionecepdkfaaMathH
namespace Go.Proofs.Ytbcionecepdkfaa
open Go.RowKit
set_option maxHeartbeats 400000 in
theorem c_common_q (a b : Int) (w : World) (ha : 0 ≤ a) (hb : 0 ≤ b) (ha' : a ≤ 4000000000000000000) (hb' : b ≤ 4000000000000000000) : Calls Try.prog 38 #[.int .i64 a, .int .i64 b] w fun r w' => r = .returned (.int .i64 (igcd a b)) ∧ ∃ m, w' = w.drewN m := by
  go_enter Try.func38, Try.ntmps38
  go_wp2
  go_loopw [0, 1] (fun u v wr => ∃ (x y : Int) (m : Nat), 0 ≤ x ∧ 0 ≤ y ∧ x ≤ 4000000000000000000 ∧ y ≤ 4000000000000000000 ∧ u = .int .i64 x ∧ v = .int .i64 y ∧ igcd x y = igcd a b ∧ wr = w.drewN m) (fun _ v _ => (intOf v).toNat)
  case atStart => exact ⟨a, b, 0, ha, hb, ha', hb', rfl, rfl, rfl, rfl⟩
  case round =>
    obtain ⟨x, y, m, hx, hy, hx', hy', rfl, rfl, hg, hm⟩ := hrel
    have HG := Lib.hid hg
    have HM := Lib.hid hm
    clear hg hm
    by_cases h0 : y = 0
    · subst h0
      go_wp2
      go_ret
      exact ⟨ret_int (by rw [← HG.out]; exact igcd_zero hx), m, HM.out⟩
    · have h1 : (y != 0) = true := by rw [bne_iff_ne]; exact h0
      have h2 : (y == 0) = false := by rw [beq_eq_false_iff_ne]; exact h0
      have h3 : 1 ≤ y := by omega
      have ht : x.tmod y = x % y := Int.tmod_eq_emod_of_nonneg hx
      have hr0 : 0 ≤ x % y := Int.emod_nonneg _ h0
      have hr1 : x % y < y := Int.emod_lt_of_pos _ (by omega)
      clear h0
      go_wp2_with fail
      go_quiet (fail)
      go_roundw
      case rel => exact ⟨_, _, _, _, _, _, _, _, ⟨y, x % y, m + nq, by omega, hr0, by omega, by omega, rfl, rfl, by rw [← HG.out]; exact igcd_step hx hy, by rw [HM.out, World.drewN_drewN]⟩, rfl⟩
      case measure => simp [intOf]; omega
theorem quiet_more {P : Program} {f : FuncId} {args : Array Value} {w : World} {n : Nat} {v : Value}
    (h : Calls P f args (w.drewN n) fun e w' => e = .returned v ∧ ∃ m, w' = (w.drewN n).drewN m) : Calls P f args (w.drewN n) fun e w'' => e = .returned v ∧ ∃ m, w'' = w.drewN m :=
  h.mono fun _ _ ⟨he, m, hm⟩ => ⟨he, n + m, by rw [hm, World.drewN_drewN]⟩
set_option maxHeartbeats 1000000 in
theorem c_impl_HyperOf (A : Option Addr) (n c : Nat) (ts : List Tk) (w : World) (h : IsTs w A n ts) (hn : n ≤ 140737488351232) :
    Calls Try.prog 21 #[.slice A n c] w (Ret w (.int .i64 (hyN ts))) := by
  cases hv : svB ts
  · have e : hyN ts = 0 := if_neg (by simp [hv])
    rw [e]
    clear e
    go_enter Try.func21, Try.ntmps21
    go_wp2_with fail
    refine (c_impl_SetValid A n c ts w h hn).mono ?_
    rintro r w1 ⟨rfl, hb1⟩
    go_wp2
    go_ret
    exact ⟨rfl, hb1⟩
  · have e : hyN ts = hyl ts := if_pos hv
    rw [e]
    have hl5 := svB_len hv
    have HV := Lib.hid hv
    have H := Lib.hid h
    have hl := h.1
    have hn5 : n ≤ 5 := by omega
    clear e h
    go_enter Try.func21, Try.ntmps21
    go_wp2_with fail
    refine (c_impl_SetValid A n c ts w H.out hn).mono ?_
    rintro r w1 ⟨rfl, hb1⟩
    have HB1 := Lib.hid hb1
    have HL := Lib.hid hl
    clear hb1 hl
    go_wp2
    clear hv
    go_loopw [3, 11] (fun u i wr => ∃ k : Nat, k ≤ n ∧ i = .int .i64 k ∧ u = .int .i64 (hyl (ts.take k)) ∧ Below w.heap.size w wr) (fun _ i _ => n - (intOf i).toNat)
    case atStart => exact ⟨0, Nat.zero_le _, rfl, rfl, HB1.out⟩
    case round =>
      obtain ⟨k, hk, rfl, rfl, hb⟩ := hrel
      have HB := Lib.hid hb
      clear hb
      by_cases hlt : k < n
      · obtain ⟨t, ht⟩ : ∃ t, ts[k]? = some t := at_of (by have := HL.out; omega)
        obtain ⟨b, o, rfl, hbb, h0, h1, h2, h3, h4⟩ := (H.out.below HB.out).2 k t ht
        have hbd := hyl_bd HV.out k (by have := HL.out; omega)
        have hp := pow_small (k := k) (by omega)
        have ho := ok_every (svB_ok HV.out ht)
        have hst := hyStep_bd (t := t) hbd.1 ho.1 ho.2
        have hsn := Lib.hid (hyl_snoc ht)
        have hr := rn_pos (b := t.every) hbd.1
        have u1 := hbd.1
        have u2 : hyl (ts.take k) ≤ 3200000 := by omega
        have u3 := ho.1
        have u4 := ho.2
        clear hbd ho ht
        generalize hyl (ts.take k) = N at *
        have hga : N.tdiv (igcd N t.every) = rn N t.every := rn_eq (by omega)
        have hne : ¬ igcd N t.every = 0 := by have := igcd_pos (x := N) u3; omega
        have hw1 : IntKind.i64.wrap (rn N t.every) = rn N t.every := IntWalk.i64_in _ (by omega)
        have hw2 : IntKind.i64.wrap (rn N t.every * t.every) = rn N t.every * t.every := IntWalk.i64_in _ (by unfold hyStep at hst; omega)
        clear hst hr hp
        go_wp2_with fail
        go_quiet ((go_at_call 38; exact quiet_more (c_common_q _ _ _ (by omega) (by omega) (by omega) (by omega))))
        go_wp2
        go_roundw
        case rel => exact ⟨k + 1, by omega, by go_num, by rw [hsn.out]; rfl, below_drewN (below2 HB.out (below_alloc _)) _⟩
        case measure => simp [intOf]; omega
      · go_wp2
        go_ret
        refine ⟨ret_int ?_, HB.out⟩
        rw [List.take_of_length_le (by have := HL.out; omega)]
end Go.Proofs.Ytbcionecepdkfaa
