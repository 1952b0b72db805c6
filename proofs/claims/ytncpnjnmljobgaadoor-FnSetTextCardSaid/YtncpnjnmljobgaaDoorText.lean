/-
  Contracts on texts: the reference's numerals, the text of a task.
-/
import Derived.Test.YtncpnjnmljobgaaDoorBase
import Derived.Test.YtncpnjnmljobgaaDoorTask
import Derived.Test.YtncpnjnmljobgaaDoorOwnApp
import Derived.Test.YtncpnjnmljobgaaDoorMathT
import Derived.IntWalk
import Derived.Laws.IdiomStrings
namespace Go.Proofs.YtncpnjnmljobgaaDoor
set_option maxRecDepth 100000
open Go.RowKit
theorem run_digit (w : World) (d : Int) (h0 : 0 ≤ d) (h1 : d ≤ 9) : (convert 22 9 (.slice (some ⟨w.heap.size, 0, none⟩) 1 1)).run Tryd.prog (w.alloc (.cells #[.int .u8 (48 + d)] 5)) = .ok (.string (bs [UInt8.ofNat (48 + d.toNat)])) (w.alloc (.cells #[.int .u8 (48 + d)] 5)) := by
  refine run_convert_bytes_back (w.alloc (.cells #[.int .u8 (48 + d)] 5)) 22 9 5 ⟨w.heap.size, 0, none⟩ 1 [UInt8.ofNat (48 + d.toNat)] Tryd.underlying22 Tryd.underlying5 Tryd.underlying9 (fun j hj => ?_)
  obtain rfl : j = 0 := by simpa using hj
  have e : ((UInt8.ofNat (48 + d.toNat)).toNat : Int) = 48 + d := by simp; omega
  simp only [List.getElem_cons_zero, e]
  simp [add_none']
theorem dec_more {n m : Int} {l : List UInt8} (h : dec n = dec m ++ l) (h9 : 9 < m) : dec n = dec (m / 10) ++ (UInt8.ofNat (48 + (m % 10).toNat) :: l) := by
  rw [h, dec_step h9]
  simp
theorem dec_last {n m : Int} {l : List UInt8} (h : dec n = dec m ++ l) (h9 : ¬ 9 < m) : dec n = UInt8.ofNat (48 + m.toNat) :: l := by
  rw [h, dec_small h9]
  simp
theorem run_digit' (w : World) (d : Int) (h0 : 0 ≤ d) (h1 : d ≤ 9) : ∃ s : ByteArray, s.size ≤ 1 ∧ Hid (s = bs [UInt8.ofNat (48 + d.toNat)]) ∧ (convert 22 9 (.slice (some ⟨w.heap.size, 0, none⟩) 1 1)).run Tryd.prog (w.alloc (.cells #[.int .u8 (48 + d)] 5)) = .ok (.string s) (w.alloc (.cells #[.int .u8 (48 + d)] 5)) :=
  ⟨_, by rw [bs_size]; simp, rfl, run_digit w d h0 h1⟩
set_option maxHeartbeats 1000000 in
theorem c_l11Dec (n : Int) (w : World) (h0 : 0 ≤ n) (h1 : n ≤ 4000000000) : Calls Tryd.prog 33 #[.int .i64 n] w (Ret w (.string (bs (dec n)))) := by
  have HN := Lib.hid (dec_len h1)
  go_enter Tryd.func33, Tryd.ntmps33
  go_wp2
  go_loopw [0, 3] (fun x u wr => ∃ (m : Int) (l : List UInt8) (s : ByteArray), x = .int .i64 m ∧ u = .string s ∧ 0 ≤ m ∧ m ≤ 4000000000 ∧ Hid (s = bs l ∧ dec n = dec m ++ l) ∧ Below w.heap.size w wr) (fun x _ _ => (intOf x).toNat)
  case atStart => exact ⟨n, [], _, rfl, rfl, h0, h1, Lib.hid ⟨rfl, by simp⟩, Below.refl _ _⟩
  case round =>
    obtain ⟨m, l, s, rfl, rfl, hm0, hm1, hl, hb⟩ := hrel
    have HB := Lib.hid hb
    have hs : s.size ≤ 10 := by
      have h2 := congrArg List.length hl.out.2
      have := HN.out
      rw [List.length_append] at h2
      rw [hl.out.1, bs_size]
      omega
    clear hb h0 h1
    by_cases h9 : 9 < m
    · obtain ⟨dg, hdg, HG, hcv⟩ := run_digit' wr (m % 10) (by omega) (by omega)
      have HD := Lib.hid (dec_more hl.out.2 h9)
      go_wp2
      clear hcv hs hdg
      go_roundw
      case rel => exact ⟨m / 10, _, _, rfl, rfl, by omega, by omega, Lib.hid ⟨by rw [hl.out.1, HG.out, bs_append]; rfl, HD.out⟩, below2 HB.out (below_alloc _)⟩
      case measure => simp [intOf]; omega
    · obtain ⟨dg, hdg, HG, hcv⟩ := run_digit' wr m (by omega) (by omega)
      have HD := Lib.hid (dec_last hl.out.2 h9)
      go_wp2
      go_ret
      exact ⟨by rw [HD.out, hl.out.1, HG.out, bs_append]; rfl, below2 HB.out (below_alloc _)⟩
end Go.Proofs.YtncpnjnmljobgaaDoor
