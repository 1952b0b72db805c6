/-
  Contracts of the functions on fractions.
-/
import Derived.Test.YtnfflpaipabbmaaDoorRows
import Derived.Test.YtnfflpaipabbmaaDoorBase
import Derived.Test.YtnfflpaipabbmaaDoorMathS
import Derived.IntWalk
namespace Go.Proofs.YtnfflpaipabbmaaDoor
set_option maxRecDepth 100000
open Go.RowKit
set_option maxHeartbeats 400000 in
theorem c_common (a b : Int) (w : World) (ha : 0 ≤ a) (hb : 0 ≤ b) (ha' : a ≤ 4000000000000000000) (hb' : b ≤ 4000000000000000000) : Calls Tryd.prog 48 #[.int .i64 a, .int .i64 b] w (Ret w (.int .i64 (igcd a b))) := by
  go_enter Tryd.func48, Tryd.ntmps48
  go_wp2
  go_loopw [0, 1] (fun u v wr => ∃ x y : Int, 0 ≤ x ∧ 0 ≤ y ∧ x ≤ 4000000000000000000 ∧ y ≤ 4000000000000000000 ∧ u = .int .i64 x ∧ v = .int .i64 y ∧ igcd x y = igcd a b ∧ Below w.heap.size w wr) (fun _ v _ => (intOf v).toNat)
  case atStart => exact ⟨a, b, ha, hb, ha', hb', rfl, rfl, rfl, Below.refl _ _⟩
  case round =>
    obtain ⟨x, y, hx, hy, hx', hy', rfl, rfl, hg, hbl⟩ := hrel
    have HG := Lib.hid hg
    have HB := Lib.hid hbl
    clear hg hbl
    by_cases h0 : y = 0
    · subst h0
      go_wp2
      go_ret
      exact ⟨ret_int (by rw [← HG.out]; exact igcd_zero hx), HB.out⟩
    · have h1 : (y != 0) = true := by rw [bne_iff_ne]; exact h0
      have h2 : (y == 0) = false := by rw [beq_eq_false_iff_ne]; exact h0
      have h3 : 1 ≤ y := by omega
      have ht : x.tmod y = x % y := Int.tmod_eq_emod_of_nonneg hx
      have hr0 : 0 ≤ x % y := Int.emod_nonneg _ h0
      have hr1 : x % y < y := Int.emod_lt_of_pos _ (by omega)
      clear h0
      go_wp2_with fail
      go_quiet (fail)
      go_roundw
      case rel => exact ⟨_, _, _, _, _, _, _, _, ⟨y, x % y, by omega, hr0, by omega, by omega, rfl, rfl, by rw [← HG.out]; exact igcd_step hx hy, below_drewN HB.out _⟩, rfl⟩
      case measure => simp [intOf]; omega
set_option maxHeartbeats 400000 in
theorem c_l1Gcd (a b : Int) (w : World) (ha : 0 ≤ a) (hb : 0 ≤ b) (ha' : a ≤ 4000000000000000000) (hb' : b ≤ 4000000000000000000) : Calls Tryd.prog 45 #[.int .i64 a, .int .i64 b] w fun r w' => r = .returned (.int .i64 (igcd a b)) ∧ w = w' := by
  go_enter Tryd.func45, Tryd.ntmps45
  go_wp2
  go_loop [0, 1] (fun u v => ∃ x y : Int, 0 ≤ x ∧ 0 ≤ y ∧ x ≤ 4000000000000000000 ∧ y ≤ 4000000000000000000 ∧ u = .int .i64 x ∧ v = .int .i64 y ∧ igcd x y = igcd a b) (fun _ v => (intOf v).toNat)
  case atStart => exact ⟨a, b, ha, hb, ha', hb', rfl, rfl, rfl⟩
  case round =>
    obtain ⟨x, y, hx, hy, hx', hy', rfl, rfl, hg⟩ := hrel
    have HG := Lib.hid hg
    clear hg
    by_cases h0 : y = 0
    · subst h0
      go_wp2
      go_ret
      exact ⟨ret_int (by rw [← HG.out]; exact igcd_zero hx), rfl⟩
    · have h1 : (y != 0) = true := by rw [bne_iff_ne]; exact h0
      have h2 : (y == 0) = false := by rw [beq_eq_false_iff_ne]; exact h0
      have h3 : 1 ≤ y := by omega
      have hr0 : 0 ≤ x % y := Int.emod_nonneg _ h0
      have hr1 : x % y < y := Int.emod_lt_of_pos _ (by omega)
      clear h0
      go_wp2
      go_round
      case rel => exact ⟨y, x % y, by omega, hr0, by omega, by omega, rfl, rfl, by rw [← HG.out]; exact igcd_step hx hy⟩
      case measure => simp [intOf]; omega
set_option maxHeartbeats 400000 in
theorem c_reduced (a b : Int) (w : World) (ha : 0 ≤ a) (hb : 1 ≤ b) (ha' : a ≤ 4000000000000000000) (hb' : b ≤ 4000000000000000000) : Calls Tryd.prog 37 #[.int .i64 a, .int .i64 b] w (Ret w (.agg #[.int .i64 (rn a b), .int .i64 (rd a b)])) := by
  have h0 : 0 ≤ b := by omega
  go_enter Tryd.func37, Tryd.ntmps37
  go_wp2_with fail
  refine (c_common _ _ _ ha h0 ha' hb').mono ?_
  rintro r w1 ⟨rfl, hb1⟩
  have hgp : 1 ≤ igcd a b := igcd_pos hb
  have hga : a.tdiv (igcd a b) = rn a b := rn_eq ha
  have hgb : b.tdiv (igcd a b) = rd a b := rd_eq h0
  have hne : ¬ igcd a b = 0 := by omega
  have hwa : IntKind.i64.wrap (rn a b) = rn a b := IntWalk.i64_in _ (by have := rn_bd ha hb; omega)
  have hwb : IntKind.i64.wrap (rd a b) = rd a b := IntWalk.i64_in _ (by have := rd_bd (a := a) hb; omega)
  obtain ⟨hc1, hf1⟩ := bcell hb1
  go_wp2_with fail
  go_still_tail 7, (by kernel_rfl)
  go_wp2_with fail
  have hB := below2 (below_alloc _) hb1
  refine bodyPost_ret (v := .agg #[.int .i64 (rn a b), .int .i64 (rd a b)]) (by simp [results, Tryd.results37, go_sem, hc1]) rfl ⟨rfl, ?_⟩
  go_grown
set_option maxHeartbeats 400000 in
theorem c_impl_MakeShare (a b : Int) (w : World) : Calls Tryd.prog 34 #[.int .i64 a, .int .i64 b] w (Ret w (.tuple #[.agg #[.int .i64 (msN a b), .int .i64 (msD a b)], .bool (msB a b)])) := by
  rcases ms_ways a b with ⟨h1, hv, hn, hd⟩ | ⟨h1, h2, hv, hn, hd⟩ | ⟨h1, h2, h3, hv, hn, hd⟩ | ⟨h1, h2, h3, h4, hv, hn, hd⟩ | ⟨h1, h2, h3, h4, hv, hn, hd⟩
  · rw [hv, hn, hd]
    clear hv hn hd
    go_enter Tryd.func34, Tryd.ntmps34
    go_wp2
    go_returns
    refine ⟨rfl, ?_⟩
    go_grown
  · rw [hv, hn, hd]
    clear hv hn hd
    go_enter Tryd.func34, Tryd.ntmps34
    go_wp2
    go_returns
    refine ⟨rfl, ?_⟩
    go_grown
  · rw [hv, hn, hd]
    clear hv hn hd
    go_enter Tryd.func34, Tryd.ntmps34
    go_wp2
    go_returns
    refine ⟨rfl, ?_⟩
    go_grown
  · rw [hv, hn, hd]
    clear hv hn hd
    go_enter Tryd.func34, Tryd.ntmps34
    go_wp2
    go_returns
    refine ⟨rfl, ?_⟩
    go_grown
  · rw [hv, hn, hd]
    clear hv hn hd
    go_enter Tryd.func34, Tryd.ntmps34
    go_wp2_with fail
    refine (c_reduced _ _ _ h1 h3 (by omega) (by omega)).mono ?_
    rintro r w1 ⟨rfl, hb1⟩
    obtain ⟨hc1, hf1⟩ := bcell hb1
    have hB := below2 (below_alloc _) hb1
    go_wp2
    refine bodyPost_ret (v := .tuple #[.agg #[.int .i64 (rn a b), .int .i64 (rd a b)], .bool true]) (by simp [results, Tryd.results34, go_sem, hc1]) rfl ⟨rfl, ?_⟩
    go_grown
set_option maxHeartbeats 400000 in
theorem c_spec_MakeShare (a b : Int) (w : World) : Calls Tryd.prog 35 #[.int .i64 a, .int .i64 b] w (Ret w (.tuple #[.agg #[.int .i64 (msN a b), .int .i64 (msD a b)], .bool (msB a b)])) := by
  rcases ms_ways a b with ⟨h1, hv, hn, hd⟩ | ⟨h1, h2, hv, hn, hd⟩ | ⟨h1, h2, h3, hv, hn, hd⟩ | ⟨h1, h2, h3, h4, hv, hn, hd⟩ | ⟨h1, h2, h3, h4, hv, hn, hd⟩
  · rw [hv, hn, hd]
    clear hv hn hd
    go_enter Tryd.func35, Tryd.ntmps35
    go_wp2
    go_returns
    refine ⟨rfl, ?_⟩
    go_grown
  · rw [hv, hn, hd]
    clear hv hn hd
    go_enter Tryd.func35, Tryd.ntmps35
    go_wp2
    go_returns
    refine ⟨rfl, ?_⟩
    go_grown
  · rw [hv, hn, hd]
    clear hv hn hd
    go_enter Tryd.func35, Tryd.ntmps35
    go_wp2
    go_returns
    refine ⟨rfl, ?_⟩
    go_grown
  · rw [hv, hn, hd]
    clear hv hn hd
    go_enter Tryd.func35, Tryd.ntmps35
    go_wp2
    go_returns
    refine ⟨rfl, ?_⟩
    go_grown
  · rw [hv, hn, hd]
    clear hv hn hd
    have h0 : 0 ≤ b := by omega
    go_enter Tryd.func35, Tryd.ntmps35
    go_wp2_with fail
    refine (c_l1Gcd _ _ _ h0 h1 (by omega) (by omega)).mono ?_
    rintro r w1 ⟨rfl, rfl⟩
    rw [igcd_comm b a]
    have hgp : 1 ≤ igcd a b := igcd_pos h3
    have hga : a.tdiv (igcd a b) = rn a b := rn_eq h1
    have hgb : b.tdiv (igcd a b) = rd a b := rd_eq h0
    have hne : ¬ igcd a b = 0 := by omega
    have hwa : IntKind.i64.wrap (rn a b) = rn a b := IntWalk.i64_in _ (by have := rn_bd h1 h3; omega)
    have hwb : IntKind.i64.wrap (rd a b) = rd a b := IntWalk.i64_in _ (by have := rd_bd (a := a) h3; omega)
    go_wp2_with fail
    go_region
    go_wp2
    go_returns
    refine ⟨rfl, ?_⟩
    go_grown
end Go.Proofs.YtnfflpaipabbmaaDoor
