/-
  Plain words on sorted tasks: what does not depend on the order.
-/
import Derived.Test.YtbcionecepdkfaaWSWords
namespace Go.Proofs.Ytbcionecepdkfaa
theorem svB_srt {ts : List Tk} (h : svB ts = true) : svB (srt ts) = true := svB_perm (srt_perm ts) h
theorem hyN_srt {ts : List Tk} (h : svB ts = true) : hyN (srt ts) = hyN ts := by
  rw [show hyN ts = hyl ts from if_pos h, show hyN (srt ts) = hyl (srt ts) from if_pos (svB_srt h)]
  exact hyl_same (svB_every h) (fun t ht => ⟨t, (srt_perm ts).mem_iff.1 ht, rfl⟩) (fun t ht => ⟨t, (srt_perm ts).mem_iff.2 ht, rfl⟩)
theorem ncrit_srt (ts : List Tk) : ncrit (srt ts) = ncrit ts := by
  unfold ncrit
  exact ((srt_perm ts).filter _).length_eq
theorem su_srt {ts : List Tk} (h : svB ts = true) (cr hi : Bool) : suN (srt ts) cr hi = suN ts cr hi ∧ suD (srt ts) cr hi = suD ts cr hi := by
  have hb := hyN_bds' h
  have hp : (sel cr (srt ts)).Perm (sel cr ts) := (srt_perm ts).filter _
  obtain ⟨a1, a2⟩ := su_over h cr hi hb.1 (hy_div h fun t ht => (sel_mem ht).1)
  obtain ⟨b1, b2⟩ := su_over (svB_srt h) cr hi hb.1 (fun t ht => hy_div h (us := sel cr ts) (fun t ht => (sel_mem ht).1) t (hp.mem_iff.1 ht))
  rw [a1, a2, b1, b2, over_perm hp]
  exact ⟨rfl, rfl⟩
/-- Neighbours are in order. -/
theorem srt_next {ts : List Tk} {i : Nat} {a b : Tk} (ha : (srt ts)[i]? = some a) (hb : (srt ts)[i + 1]? = some b) : a.due ≤ b.due ∧ (a.due = b.due → a.every ≤ b.every) := by
  have := srt_sorted ts i (i + 1) a b (by omega) ha hb
  rw [tLt_not] at this
  omega
end Go.Proofs.Ytbcionecepdkfaa
