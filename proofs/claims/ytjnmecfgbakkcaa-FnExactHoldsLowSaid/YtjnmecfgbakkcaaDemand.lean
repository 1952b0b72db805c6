/-
  Contracts of the demand of a task.
-/
import Derived.Test.YtjnmecfgbakkcaaTask
import Derived.Test.YtjnmecfgbakkcaaMathR
import Derived.IntWalk
namespace Go.Proofs.Ytjnmecfgbakkcaa
open Go.RowKit
set_option maxHeartbeats 400000 in
theorem c_spec_l3Demand (l h d e : Int) (cr : Bool) (x : Int) (hi : Bool) (w : World) (hv : tvB l h d e cr = true) (hx : 0 ≤ x) (hx' : x ≤ 1000000000) :
    Calls Try.prog 53 #[.agg #[.int .i64 l, .int .i64 h, .int .i64 d, .int .i64 e, .bool cr], .int .i64 x, .bool hi] w (Ret w (.int .i64 (dmd l h e x hi))) := by
  obtain ⟨h1, h2, h3, h4, h5, _⟩ := tvB_true hv
  clear hv
  have he : 1 ≤ e := by omega
  have hq := jobs_bd hx hx' he
  have hq0 : 0 ≤ (x + e - 1) / e := hq.1
  have hq1 : (x + e - 1) / e ≤ 1000000020 := by omega
  have hp1 := mul_small hq0 hq1 (show 0 ≤ l by omega) (show l ≤ 20 by omega)
  have hp2 := mul_small hq0 hq1 (show 0 ≤ h by omega) (show h ≤ 20 by omega)
  have hp1a := hp1.1
  have hp1b := hp1.2
  have hp2a := hp2.1
  have hp2b := hp2.2
  clear hq hp1 hp2
  have hdv : (x + e - 1).tdiv e = (x + e - 1) / e := Int.tdiv_eq_ediv_of_nonneg (by omega)
  have hne : ¬ e = 0 := by omega
  cases hi
  · go_enter Try.func53, Try.ntmps53
    go_wp2
    go_ret
    refine ⟨ret_int (by simp [dmd]), ?_⟩
    go_grown
  · go_enter Try.func53, Try.ntmps53
    go_wp2
    go_ret
    refine ⟨ret_int (by simp [dmd]), ?_⟩
    go_grown
set_option maxHeartbeats 400000 in
theorem c_impl_demand (l h d e : Int) (cr : Bool) (x : Int) (hi : Bool) (w : World) (hv : tvB l h d e cr = true) (hx : 0 ≤ x) (hx' : x ≤ 1000000000) :
    Calls Try.prog 57 #[.agg #[.int .i64 l, .int .i64 h, .int .i64 d, .int .i64 e, .bool cr], .int .i64 x, .bool hi] w (Ret w (.int .i64 (dmd l h e x hi))) := by
  obtain ⟨h1, h2, h3, h4, h5, _⟩ := tvB_true hv
  clear hv
  have he : 1 ≤ e := by omega
  have hq := jobs_bd hx hx' he
  have hq0 : 0 ≤ (x + e - 1) / e := hq.1
  have hq1 : (x + e - 1) / e ≤ 1000000020 := by omega
  have hp1 := mul_small hq0 hq1 (show 0 ≤ l by omega) (show l ≤ 20 by omega)
  have hp2 := mul_small hq0 hq1 (show 0 ≤ h by omega) (show h ≤ 20 by omega)
  have hp1a := hp1.1
  have hp1b := hp1.2
  have hp2a := hp2.1
  have hp2b := hp2.2
  clear hq hp1 hp2
  have hdv : (x + e - 1).tdiv e = (x + e - 1) / e := Int.tdiv_eq_ediv_of_nonneg (by omega)
  have hne : ¬ e = 0 := by omega
  cases hi
  · go_enter Try.func57, Try.ntmps57
    go_wp2
    go_ret
    refine ⟨ret_int (by simp [dmd]), ?_⟩
    go_grown
  · go_enter Try.func57, Try.ntmps57
    go_wp2
    go_ret
    refine ⟨ret_int (by simp [dmd]), ?_⟩
    go_grown
end Go.Proofs.Ytjnmecfgbakkcaa
