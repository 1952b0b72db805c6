/-
  The laws' own comparison of two lists of tasks.
-/
import Derived.Test.YtncpnjnmljobgaaDoorList
namespace Go.Proofs.YtncpnjnmljobgaaDoor
set_option maxRecDepth 100000
open Go.RowKit
set_option maxHeartbeats 400000 in
theorem c_dmTasks (A A' : Option Addr) (n n' c c' : Nat) (ts : List Tk) (w : World) (h : IsTs w A n ts) (h' : IsTs w A' n' ts) (hn : n ≤ 140737488351232) :
    Calls Tryd.prog 26 #[.slice A n c, .slice A' n' c'] w (Ret w (.bool true)) := by
  obtain rfl : n = n' := by rw [← h.1, h'.1]
  have HL := Lib.hid h.1
  have H := Lib.hid h
  have H' := Lib.hid h'
  clear h h'
  go_enter Tryd.func26, Tryd.ntmps26
  go_wp2
  go_loopw [5] (fun i wr => ∃ k : Nat, k ≤ n ∧ i = .int .i64 k ∧ Below w.heap.size w wr) (fun i _ => n - (intOf i).toNat)
  case atStart => exact ⟨0, Nat.zero_le _, rfl, Below.refl _ _⟩
  case round =>
    obtain ⟨k, hk, rfl, hb⟩ := hrel
    have HB := Lib.hid hb
    clear hb
    by_cases hlt : k < n
    · obtain ⟨t, ht⟩ : ∃ t, ts[k]? = some t := at_of (by have := HL.out; omega)
      obtain ⟨b, o, rfl, hbb, h0, h1, h2, h3, h4⟩ := (H.out.below HB.out).2 k t ht
      obtain ⟨b', o', rfl, hbb', g0, g1, g2, g3, g4⟩ := (H'.out.below HB.out).2 k t ht
      clear ht
      go_wp2_with fail
      go_quiet (fail)
      go_wp2
      go_roundw
      case rel => exact ⟨k + 1, by omega, by go_num, below_drewN HB.out _⟩
      case measure => simp [intOf]; omega
    · go_wp2
      go_ret
      exact ⟨rfl, HB.out⟩
end Go.Proofs.YtncpnjnmljobgaaDoor
