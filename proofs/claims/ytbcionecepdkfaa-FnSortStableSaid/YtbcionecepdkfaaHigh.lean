/-
  Contracts of HighShare.
-/
import Derived.Test.YtbcionecepdkfaaSum
import Derived.Test.YtbcionecepdkfaaCrit
namespace Go.Proofs.Ytbcionecepdkfaa
open Go.RowKit
theorem sel_crit (ts : List Tk) : sel true (critL ts) = critL ts := by
  unfold sel critL
  rw [List.filter_eq_self]
  intro t ht
  obtain ⟨u, hu, rfl⟩ := List.mem_map.1 ht
  have := (List.mem_filter.1 hu).2
  simpa [critT] using this
theorem fs_crit_aux (hi : Bool) (us : List Tk) : ∀ pq, (us.map critT).foldl (fsStep (nd hi)) pq = us.foldl (fsStep (nd true)) pq := by
  induction us with
  | nil => intro pq; rfl
  | cons u us ih =>
    intro pq
    have e : fsStep (nd hi) pq (critT u) = fsStep (nd true) pq u := by cases hi <;> rfl
    rw [List.map_cons, List.foldl_cons, List.foldl_cons, e, ih]
theorem fs_crit (hi : Bool) (ts : List Tk) : fs (nd hi) (critL ts) = fs (nd true) (sel true ts) := by
  have e : sel true ts = ts.filter (·.crit) := by unfold sel; congr 1; funext t; cases t.crit <;> rfl
  rw [e]
  exact fs_crit_aux hi _ _
/-- The share of the critical tasks alone. -/
theorem su_crit {ts : List Tk} (hv : svB ts = true) (hi : Bool) : suN (critL ts) true hi = suN ts true true ∧ suD (critL ts) true hi = suD ts true true := by
  obtain ⟨a1, a2⟩ := su_yes hv true true
  obtain ⟨b1, b2⟩ := su_yes (svB_critL hv) true hi
  rw [a1, a2, b1, b2, sel_crit]
  unfold fsN fsD
  rw [fs_crit]
  exact ⟨rfl, rfl⟩
end Go.Proofs.Ytbcionecepdkfaa
