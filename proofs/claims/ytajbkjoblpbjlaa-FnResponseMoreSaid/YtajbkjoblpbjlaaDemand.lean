/-
  Contracts of the demand of a task.
-/
import Derived.Test.YtajbkjoblpbjlaaTask
import Derived.Test.YtajbkjoblpbjlaaMathR
import Derived.IntWalk
namespace Go.Proofs.Ytajbkjoblpbjlaa
open Go.RowKit
set_option maxHeartbeats 400000 in
theorem c_spec_l3Demand (l h d e : Int) (cr : Bool) (x : Int) (hi : Bool) (w : World) (hv : tvB l h d e cr = true) (hx : 0 ≤ x) (hx' : x ≤ 1000000000) :
    Calls Try.prog 38 #[.agg #[.int .i64 l, .int .i64 h, .int .i64 d, .int .i64 e, .bool cr], .int .i64 x, .bool hi] w (Ret w (.int .i64 (dmd l h e x hi))) := by
  obtain ⟨h1, h2, h3, h4, h5, _⟩ := tvB_true hv
  clear hv
  have he : 1 ≤ e := by omega
  have hq := jobs_bd hx hx' he
  have hq0 : 0 ≤ (x + e - 1) / e := hq.1
  have hq1 : (x + e - 1) / e ≤ 1000000020 := by omega
  have hp1 := mul_small hq0 hq1 (show 0 ≤ l by omega) (show l ≤ 20 by omega)
  have hp2 := mul_small hq0 hq1 (show 0 ≤ h by omega) (show h ≤ 20 by omega)
  have hp1a := hp1.1
  have hp1b := hp1.2
  have hp2a := hp2.1
  have hp2b := hp2.2
  clear hq hp1 hp2
  have hdv : (x + e - 1).tdiv e = (x + e - 1) / e := Int.tdiv_eq_ediv_of_nonneg (by omega)
  have hne : ¬ e = 0 := by omega
  cases hi
  · go_enter Try.func38, Try.ntmps38
    go_wp2
    go_ret
    refine ⟨ret_int (by simp [dmd]), ?_⟩
    go_grown
  · go_enter Try.func38, Try.ntmps38
    go_wp2
    go_ret
    refine ⟨ret_int (by simp [dmd]), ?_⟩
    go_grown
set_option maxHeartbeats 400000 in
theorem c_impl_demand (l h d e : Int) (cr : Bool) (x : Int) (hi : Bool) (w : World) (hv : tvB l h d e cr = true) (hx : 0 ≤ x) (hx' : x ≤ 1000000000) :
    Calls Try.prog 42 #[.agg #[.int .i64 l, .int .i64 h, .int .i64 d, .int .i64 e, .bool cr], .int .i64 x, .bool hi] w (Ret w (.int .i64 (dmd l h e x hi))) := by
  obtain ⟨h1, h2, h3, h4, h5, _⟩ := tvB_true hv
  clear hv
  have he : 1 ≤ e := by omega
  have hq := jobs_bd hx hx' he
  have hq0 : 0 ≤ (x + e - 1) / e := hq.1
  have hq1 : (x + e - 1) / e ≤ 1000000020 := by omega
  have hp1 := mul_small hq0 hq1 (show 0 ≤ l by omega) (show l ≤ 20 by omega)
  have hp2 := mul_small hq0 hq1 (show 0 ≤ h by omega) (show h ≤ 20 by omega)
  have hp1a := hp1.1
  have hp1b := hp1.2
  have hp2a := hp2.1
  have hp2b := hp2.2
  clear hq hp1 hp2
  have hdv : (x + e - 1).tdiv e = (x + e - 1) / e := Int.tdiv_eq_ediv_of_nonneg (by omega)
  have hne : ¬ e = 0 := by omega
  cases hi
  · go_enter Try.func42, Try.ntmps42
    go_wp2
    go_ret
    refine ⟨ret_int (by simp [dmd]), ?_⟩
    go_grown
  · go_enter Try.func42, Try.ntmps42
    go_wp2
    go_ret
    refine ⟨ret_int (by simp [dmd]), ?_⟩
    go_grown
set_option maxHeartbeats 400000 in
theorem c_impl_DemandOf (l h d e : Int) (cr : Bool) (x : Int) (hi : Bool) (w : World) :
    Calls Try.prog 29 #[.agg #[.int .i64 l, .int .i64 h, .int .i64 d, .int .i64 e, .bool cr], .int .i64 x, .bool hi] w (Ret w (.tuple #[.int .i64 (doN l h d e cr x hi), .bool (doB l h d e cr x)])) := by
  rcases do_ways l h d e cr x hi with ⟨h1, hn, hv⟩ | ⟨h1, h2, hn, hv⟩ | ⟨h1, h2, h3, hn, hv⟩ | ⟨h1, h2, h3, hn, hv⟩
  · rw [hv, hn]
    clear hv hn
    go_enter Try.func29, Try.ntmps29
    go_wp2_with fail
    refine (c_impl_TaskValid _ _ _ _ _ _).mono ?_
    rintro r w1 ⟨rfl, hb1⟩
    have hB := below2 (below_alloc _) hb1
    go_wp2
    go_ret2
    exact ⟨rfl, hB⟩
  · rw [hv, hn]
    clear hv hn
    go_enter Try.func29, Try.ntmps29
    go_wp2_with fail
    refine (c_impl_TaskValid _ _ _ _ _ _).mono ?_
    rintro r w1 ⟨rfl, hb1⟩
    have hB := below2 (below_alloc _) hb1
    go_wp2
    go_ret2
    exact ⟨rfl, hB⟩
  · rw [hv, hn]
    clear hv hn
    go_enter Try.func29, Try.ntmps29
    go_wp2_with fail
    refine (c_impl_TaskValid _ _ _ _ _ _).mono ?_
    rintro r w1 ⟨rfl, hb1⟩
    have hB := below2 (below_alloc _) hb1
    go_wp2
    go_ret2
    exact ⟨rfl, hB⟩
  · rw [hv, hn]
    clear hv hn
    go_enter Try.func29, Try.ntmps29
    go_wp2_with fail
    refine (c_impl_TaskValid _ _ _ _ _ _).mono ?_
    rintro r w1 ⟨rfl, hb1⟩
    obtain ⟨hc1, hf1⟩ := bcell hb1
    go_wp2_with fail
    refine (c_impl_demand _ _ _ _ _ _ _ _ h1 h2 (by omega)).mono ?_
    rintro r w2 ⟨rfl, hb2⟩
    have hB := below2 (below_alloc _) (below2 hb1 hb2)
    go_wp2
    go_ret2
    exact ⟨rfl, hB⟩
end Go.Proofs.Ytajbkjoblpbjlaa
