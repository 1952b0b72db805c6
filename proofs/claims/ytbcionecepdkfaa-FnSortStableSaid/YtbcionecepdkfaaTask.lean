/-
  Contracts of the functions on one task.
-/
import Derived.Test.YtbcionecepdkfaaRows
import Derived.Test.YtbcionecepdkfaaBase
namespace Go.Proofs.Ytbcionecepdkfaa
open Go.RowKit
theorem tv_ways (l h d e : Int) (c : Bool) : (¬ 1 ≤ l ∧ tvB l h d e c = false) ∨ (1 ≤ l ∧ ¬ l ≤ h ∧ tvB l h d e c = false) ∨ (1 ≤ l ∧ l ≤ h ∧ ¬ h ≤ d ∧ tvB l h d e c = false) ∨ (1 ≤ l ∧ l ≤ h ∧ h ≤ d ∧ ¬ d ≤ e ∧ tvB l h d e c = false) ∨ (1 ≤ l ∧ l ≤ h ∧ h ≤ d ∧ d ≤ e ∧ ¬ e ≤ 20 ∧ tvB l h d e c = false) ∨ (1 ≤ l ∧ l ≤ h ∧ h ≤ d ∧ d ≤ e ∧ e ≤ 20 ∧ c = true ∧ tvB l h d e c = true) ∨ (1 ≤ l ∧ l ≤ h ∧ h ≤ d ∧ d ≤ e ∧ e ≤ 20 ∧ c = false ∧ l = h ∧ tvB l h d e c = true) ∨ (1 ≤ l ∧ l ≤ h ∧ h ≤ d ∧ d ≤ e ∧ e ≤ 20 ∧ c = false ∧ (l == h) = false ∧ tvB l h d e c = false) := by
  unfold tvB
  cases c <;> simp <;> omega
set_option maxHeartbeats 400000 in
theorem c_spec_TaskValid (l h d e : Int) (c : Bool) (w : World) : Calls Try.prog 48 #[.agg #[.int .i64 l, .int .i64 h, .int .i64 d, .int .i64 e, .bool c]] w (Ret w (.bool (tvB l h d e c))) := by
  rcases tv_ways l h d e c with ⟨h1, hv⟩ | ⟨h1, h2, hv⟩ | ⟨h1, h2, h3, hv⟩ | ⟨h1, h2, h3, h4, hv⟩ | ⟨h1, h2, h3, h4, h5, hv⟩ | ⟨h1, h2, h3, h4, h5, rfl, hv⟩ | ⟨h1, h2, h3, h4, h5, rfl, rfl, hv⟩ | ⟨h1, h2, h3, h4, h5, rfl, h6, hv⟩
  all_goals
    rw [hv]
    clear hv
    go_enter Try.func48, Try.ntmps48
    go_wp2
    go_ret
    exact ⟨rfl, below_alloc _⟩
set_option maxHeartbeats 400000 in
theorem c_impl_TaskValid (l h d e : Int) (c : Bool) (w : World) : Calls Try.prog 35 #[.agg #[.int .i64 l, .int .i64 h, .int .i64 d, .int .i64 e, .bool c]] w (Ret w (.bool (tvB l h d e c))) := by
  rcases tv_ways l h d e c with ⟨h1, hv⟩ | ⟨h1, h2, hv⟩ | ⟨h1, h2, h3, hv⟩ | ⟨h1, h2, h3, h4, hv⟩ | ⟨h1, h2, h3, h4, h5, hv⟩ | ⟨h1, h2, h3, h4, h5, rfl, hv⟩ | ⟨h1, h2, h3, h4, h5, rfl, rfl, hv⟩ | ⟨h1, h2, h3, h4, h5, rfl, h6, hv⟩
  all_goals
    rw [hv]
    clear hv
    go_enter Try.func35, Try.ntmps35
    go_wp2
    go_ret
    exact ⟨rfl, below_alloc _⟩
theorem c_toTask (l h d e : Int) (c : Bool) (w : World) : Calls Try.prog 36 #[.agg #[.int .i64 l, .int .i64 h, .int .i64 d, .int .i64 e, .bool c]] w (Ret w (.agg #[.int .i64 l, .int .i64 h, .int .i64 d, .int .i64 e, .bool c])) := by
  go_enter Try.func36, Try.ntmps36
  go_wp2
  go_returns
  refine ⟨rfl, ?_⟩
  go_grown
theorem eq_ways (l h d e l' h' d' e' : Int) (c c' : Bool) : ((l != l') = true ∧ Tk.eqB ⟨l, h, d, e, c⟩ ⟨l', h', d', e', c'⟩ = false) ∨ ((l != l') = false ∧ (h != h') = true ∧ Tk.eqB ⟨l, h, d, e, c⟩ ⟨l', h', d', e', c'⟩ = false) ∨ ((l != l') = false ∧ (h != h') = false ∧ (d != d') = true ∧ Tk.eqB ⟨l, h, d, e, c⟩ ⟨l', h', d', e', c'⟩ = false) ∨ ((l != l') = false ∧ (h != h') = false ∧ (d != d') = false ∧ (e != e') = true ∧ Tk.eqB ⟨l, h, d, e, c⟩ ⟨l', h', d', e', c'⟩ = false) ∨ ((l != l') = false ∧ (h != h') = false ∧ (d != d') = false ∧ (e != e') = false ∧ (!(c == c')) = true ∧ Tk.eqB ⟨l, h, d, e, c⟩ ⟨l', h', d', e', c'⟩ = false) ∨ ((l != l') = false ∧ (h != h') = false ∧ (d != d') = false ∧ (e != e') = false ∧ (!(c == c')) = false ∧ Tk.eqB ⟨l, h, d, e, c⟩ ⟨l', h', d', e', c'⟩ = true) := by
  unfold Tk.eqB
  cases c <;> cases c' <;> simp <;> omega
set_option maxHeartbeats 400000 in
theorem c_eqTask (l h d e l' h' d' e' : Int) (c c' : Bool) (w : World) : Calls Try.prog 37 #[.agg #[.int .i64 l, .int .i64 h, .int .i64 d, .int .i64 e, .bool c], .agg #[.int .i64 l', .int .i64 h', .int .i64 d', .int .i64 e', .bool c']] w (Ret w (.bool (Tk.eqB ⟨l, h, d, e, c⟩ ⟨l', h', d', e', c'⟩))) := by
  rcases eq_ways l h d e l' h' d' e' c c' with ⟨h1, hv⟩ | ⟨h1, h2, hv⟩ | ⟨h1, h2, h3, hv⟩ | ⟨h1, h2, h3, h4, hv⟩ | ⟨h1, h2, h3, h4, h5, hv⟩ | ⟨h1, h2, h3, h4, h5, hv⟩
  all_goals
    rw [hv]
    clear hv
    go_enter Try.func37, Try.ntmps37
    go_wp2
    go_ret
    refine ⟨rfl, ?_⟩
    go_grown
end Go.Proofs.Ytbcionecepdkfaa
