/-
  Contracts of the functions on one task.
-/
import Derived.Test.YtncpnjnmljobgaaDoorRows
import Derived.Test.YtncpnjnmljobgaaDoorBase
namespace Go.Proofs.YtncpnjnmljobgaaDoor
set_option maxRecDepth 100000
open Go.RowKit
theorem tv_ways (l h d e : Int) (c : Bool) : (¬ 1 ≤ l ∧ tvB l h d e c = false) ∨ (1 ≤ l ∧ ¬ l ≤ h ∧ tvB l h d e c = false) ∨ (1 ≤ l ∧ l ≤ h ∧ ¬ h ≤ d ∧ tvB l h d e c = false) ∨ (1 ≤ l ∧ l ≤ h ∧ h ≤ d ∧ ¬ d ≤ e ∧ tvB l h d e c = false) ∨ (1 ≤ l ∧ l ≤ h ∧ h ≤ d ∧ d ≤ e ∧ ¬ e ≤ 20 ∧ tvB l h d e c = false) ∨ (1 ≤ l ∧ l ≤ h ∧ h ≤ d ∧ d ≤ e ∧ e ≤ 20 ∧ c = true ∧ tvB l h d e c = true) ∨ (1 ≤ l ∧ l ≤ h ∧ h ≤ d ∧ d ≤ e ∧ e ≤ 20 ∧ c = false ∧ l = h ∧ tvB l h d e c = true) ∨ (1 ≤ l ∧ l ≤ h ∧ h ≤ d ∧ d ≤ e ∧ e ≤ 20 ∧ c = false ∧ (l == h) = false ∧ tvB l h d e c = false) := by
  unfold tvB
  cases c <;> simp <;> omega
set_option maxHeartbeats 400000 in
theorem c_spec_TaskValid (l h d e : Int) (c : Bool) (w : World) : Calls Tryd.prog 13 #[.agg #[.int .i64 l, .int .i64 h, .int .i64 d, .int .i64 e, .bool c]] w (Ret w (.bool (tvB l h d e c))) := by
  rcases tv_ways l h d e c with ⟨h1, hv⟩ | ⟨h1, h2, hv⟩ | ⟨h1, h2, h3, hv⟩ | ⟨h1, h2, h3, h4, hv⟩ | ⟨h1, h2, h3, h4, h5, hv⟩ | ⟨h1, h2, h3, h4, h5, rfl, hv⟩ | ⟨h1, h2, h3, h4, h5, rfl, rfl, hv⟩ | ⟨h1, h2, h3, h4, h5, rfl, h6, hv⟩
  all_goals
    rw [hv]
    clear hv
    go_enter Tryd.func13, Tryd.ntmps13
    go_wp2
    go_ret
    exact ⟨rfl, below_alloc _⟩
set_option maxHeartbeats 400000 in
theorem c_impl_TaskValid (l h d e : Int) (c : Bool) (w : World) : Calls Tryd.prog 11 #[.agg #[.int .i64 l, .int .i64 h, .int .i64 d, .int .i64 e, .bool c]] w (Ret w (.bool (tvB l h d e c))) := by
  rcases tv_ways l h d e c with ⟨h1, hv⟩ | ⟨h1, h2, hv⟩ | ⟨h1, h2, h3, hv⟩ | ⟨h1, h2, h3, h4, hv⟩ | ⟨h1, h2, h3, h4, h5, hv⟩ | ⟨h1, h2, h3, h4, h5, rfl, hv⟩ | ⟨h1, h2, h3, h4, h5, rfl, rfl, hv⟩ | ⟨h1, h2, h3, h4, h5, rfl, h6, hv⟩
  all_goals
    rw [hv]
    clear hv
    go_enter Tryd.func11, Tryd.ntmps11
    go_wp2
    go_ret
    exact ⟨rfl, below_alloc _⟩
theorem eq_ways (l h d e l' h' d' e' : Int) (c c' : Bool) : ((l != l') = true ∧ Tk.eqB ⟨l, h, d, e, c⟩ ⟨l', h', d', e', c'⟩ = false) ∨ ((l != l') = false ∧ (h != h') = true ∧ Tk.eqB ⟨l, h, d, e, c⟩ ⟨l', h', d', e', c'⟩ = false) ∨ ((l != l') = false ∧ (h != h') = false ∧ (d != d') = true ∧ Tk.eqB ⟨l, h, d, e, c⟩ ⟨l', h', d', e', c'⟩ = false) ∨ ((l != l') = false ∧ (h != h') = false ∧ (d != d') = false ∧ (e != e') = true ∧ Tk.eqB ⟨l, h, d, e, c⟩ ⟨l', h', d', e', c'⟩ = false) ∨ ((l != l') = false ∧ (h != h') = false ∧ (d != d') = false ∧ (e != e') = false ∧ (!(c == c')) = true ∧ Tk.eqB ⟨l, h, d, e, c⟩ ⟨l', h', d', e', c'⟩ = false) ∨ ((l != l') = false ∧ (h != h') = false ∧ (d != d') = false ∧ (e != e') = false ∧ (!(c == c')) = false ∧ Tk.eqB ⟨l, h, d, e, c⟩ ⟨l', h', d', e', c'⟩ = true) := by
  unfold Tk.eqB
  cases c <;> cases c' <;> simp <;> omega
set_option maxHeartbeats 400000 in
theorem c_eqTask (l h d e l' h' d' e' : Int) (c c' : Bool) (w : World) : Calls Tryd.prog 28 #[.agg #[.int .i64 l, .int .i64 h, .int .i64 d, .int .i64 e, .bool c], .agg #[.int .i64 l', .int .i64 h', .int .i64 d', .int .i64 e', .bool c']] w (Ret w (.bool (Tk.eqB ⟨l, h, d, e, c⟩ ⟨l', h', d', e', c'⟩))) := by
  rcases eq_ways l h d e l' h' d' e' c c' with ⟨h1, hv⟩ | ⟨h1, h2, hv⟩ | ⟨h1, h2, h3, hv⟩ | ⟨h1, h2, h3, h4, hv⟩ | ⟨h1, h2, h3, h4, h5, hv⟩ | ⟨h1, h2, h3, h4, h5, hv⟩
  all_goals
    rw [hv]
    clear hv
    go_enter Tryd.func28, Tryd.ntmps28
    go_wp2
    go_ret
    refine ⟨rfl, ?_⟩
    go_grown
end Go.Proofs.YtncpnjnmljobgaaDoor
