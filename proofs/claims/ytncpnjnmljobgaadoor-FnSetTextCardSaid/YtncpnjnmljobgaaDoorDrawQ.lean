/-
  The drawing of texts of sets.
-/
import Derived.Test.YtncpnjnmljobgaaDoorDrawP
import Derived.Test.YtncpnjnmljobgaaDoorSets
import Derived.Test.YtncpnjnmljobgaaDoorSetT
namespace Go.Proofs.YtncpnjnmljobgaaDoor
set_option maxRecDepth 100000
open Go.RowKit
theorem fmtSet_short (ts : List Tk) : (bs (fmtSet ts)).size ≤ 110 := by
  rw [bs_size]
  cases h : svB ts
  · rw [fmtSet_no h]; decide
  · have h1 := fmtK_len h ts.length (Nat.le_refl _)
    rw [fmtK_all rfl] at h1
    rw [fmtSet_yes h]
    have := svB_len h
    omega
set_option maxHeartbeats 4000000 in
theorem c_DrawParseSet (A : Option Addr) (n c : Nat) (w : World) (h : IsBytes w A n c) (hn : n ≤ 1048576) : Calls Tryd.prog 27 #[.slice A n c] w (GotV w TextV) := by
  go_enter Tryd.func27, Tryd.ntmps27
  go_wp2_with fail
  refine (c_l11Open A n c _ h hn).mono ?_
  rintro r w1 ⟨g, n1, c1, rfl, hg, hn1, hb1, hr1⟩
  have HR1 := Lib.hid hr1
  have HB1 := Lib.hid hb1
  clear hr1 hb1 h
  go_wp2_with fail
  refine (c_l1Set g A n1 c1 0 _ HR1.out (by omega) (by omega) hn1).mono ?_
  rintro r w2 ⟨A2, n2, c2, ts, rfl, hn2, hg2, ho2, p2, hp2, hp2', hr2⟩
  have HR2 := Lib.hid hr2
  have HG2 := Lib.hid hg2
  have HO2 := Lib.hid ho2.isTs
  have CF := Lib.hid (fun W (h : IsTs W A2 n2 ts) => c_spec_FormatSet A2 n2 c2 ts W h (by omega))
  have hz1 : (bs (fmtSet ts)).size ≤ 110 := fmtSet_short ts
  generalize bs (fmtSet ts) = s at CF hz1
  clear hr2 hg2 ho2 HR1
  go_wp2_with fail
  refine (CF.out _ HO2.out).mono ?_
  rintro r w3 ⟨rfl, hb3⟩
  have HR3 := Lib.hid (HR2.out.below hb3)
  have HG3 := Lib.hid (grown_below HG2.out hb3)
  clear hb3 HR2 HG2 CF HO2
  by_cases hz0 : s.size = 0
  · have hz0' : ((s.size : Int) == 0) = true := by rw [hz0]; rfl
    go_wp2
    go_ret
    exact ⟨_, ⟨s, rfl, by omega⟩, rfl, below_src HB1.out hg HG3.out⟩
  have hz0' : ((s.size : Int) == 0) = false := by rw [beq_eq_false_iff_ne]; omega
  go_wp2_with fail
  refine (c_pick g A n1 c1 p2 2 _ HR3.out (by omega) (by omega) hn1 (by omega)).mono ?_
  rintro r w4 ⟨x, _, rfl, hg4, p4, hp4, hp4', hr4⟩
  have HR4 := Lib.hid hr4
  have HG4 := Lib.hid (grown_trans HG3.out hg4)
  clear hr4 hg4 HR3 HG3
  by_cases hx : x = 0
  · subst hx
    go_wp2
    go_ret
    exact ⟨_, ⟨s, rfl, by omega⟩, rfl, below_src HB1.out hg HG4.out⟩
  have hxb : (x == 0) = false := by rw [beq_eq_false_iff_ne]; exact hx
  go_wp2_with fail
  refine (c_pick g A n1 c1 p4 s.size _ HR4.out (by omega) (by omega) hn1 (by omega)).mono ?_
  rintro r w5 ⟨k, ⟨hk0, hk1⟩, rfl, hg5, p5, hp5, hp5', hr5⟩
  obtain ⟨i, rfl⟩ := Int.eq_ofNat_of_zero_le hk0
  have hi : i < s.size := by omega
  have HR5 := Lib.hid hr5
  have HG5 := Lib.hid (grown_trans HG4.out hg5)
  clear hr5 hg5 HR4 HG4 hk0 hk1
  go_upto_region 6 with (fail)
  have HE := Lib.hid (show ∀ a b : Nat, (s.extract a b).size ≤ 110 from fun a b => by rw [ByteArray.size_extract]; omega)
  have hk0 : (0 : Int) ≤ (i : Int) := by omega
  have hk1 : (i : Int) ≤ (s.size : Int) := by omega
  have HRB := Lib.hid (show Rd (w5.alloc (.cells #[.string { data := #[] }, .string { data := #[32] }, .string { data := #[59] }, .string { data := #[49] }, .string { data := #[47] }] 9)).drew g A n1 c1 p5 from Rd.drewN (HR5.out.below (below_alloc _)) 1)
  have HST := Lib.hid (show Strs (w5.alloc (.cells #[.string { data := #[] }, .string { data := #[32] }, .string { data := #[59] }, .string { data := #[49] }, .string { data := #[47] }] 9)).drew w5.heap.size 5 from by
    intro j hj
    have hc : ∀ o, (w5.alloc (.cells #[.string { data := #[] }, .string { data := #[32] }, .string { data := #[59] }, .string { data := #[49] }, .string { data := #[47] }] 9)).drew.cell? ⟨w5.heap.size, o, none⟩ = (#[.string { data := #[] }, .string { data := #[32] }, .string { data := #[59] }, .string { data := #[49] }, .string { data := #[47] }] : Array Value)[o]? := fun o => World.cell?_alloc_new ..
    match j, hj with
    | 0, _ => exact ⟨_, by decide, hc 0⟩
    | 1, _ => exact ⟨_, by decide, hc 1⟩
    | 2, _ => exact ⟨_, by decide, hc 2⟩
    | 3, _ => exact ⟨_, by decide, hc 3⟩
    | 4, _ => exact ⟨_, by decide, hc 4⟩)
  have hne : w5.heap.size ≠ g := by have := HR5.out.lt; omega
  have HW := Lib.hid (show ∀ z : Nat, ((z : Int) < 2 ∨ (z : Int) = 0) → IntKind.i64.wrap ((i : Int) + (z : Int)) = (i : Int) + (z : Int) ∧ (0 : Int) ≤ (i : Int) + (z : Int) ∧ (i : Int) + (z : Int) ≤ (s.size : Int) from fun z hz => ⟨IntWalk.i64_in _ (by omega), by omega, by omega⟩)
  have HY := Lib.hid (show ∀ y : ByteArray, y.size ≤ 2 → ((9223372036854775807 < min i s.size + y.size) = False) ∧ ∀ a : Nat, ((9223372036854775807 < min i s.size + y.size + (s.size - a)) = False) from fun y hy => ⟨eq_false (by omega), fun a => eq_false (by omega)⟩)
  go_region_held3 (fun _ => True) (trivial) (first
    | (go_at_call 37; go_must (refine (c_of g w5.heap.size 5 A n1 c1 p5 _ HRB.out (by omega) (by omega) hn1 (by omega) (by omega) hne HST.out).mono ?_; rintro r w6 ⟨_, ⟨y, rfl, hy⟩, rfl, hg6, p6, hp6, hp6', hr6⟩; obtain ⟨hy1, hy2⟩ := HY.out y hy))
    | (go_at_call 36; go_must (refine (c_pick g A n1 c1 p6 2 _ hr6 (by omega) (by omega) hn1 (by omega)).mono ?_; rintro r w7 ⟨z, ⟨hz2, hz3⟩, rfl, hg7, p7, hp7, hp7', hr7⟩; obtain ⟨z', rfl⟩ := Int.eq_ofNat_of_zero_le hz2; obtain ⟨hz4, hz5, hz6⟩ := HW.out z' hz3; have hy3 := hy2 (i + z'))))
  go_wp2
  go_ret
  refine ⟨_, ⟨_, rfl, ?_⟩, rfl, below_src HB1.out hg (grown_trans HG5.out (grown_trans (grown_trans (below_grown (below_alloc _) _) (grown_undrew hg6)) hg7))⟩
  rw [ByteArray.size_append, ByteArray.size_append]
  exact Nat.le_trans (Nat.add_le_add (Nat.add_le_add (HE.out _ _) hy) (HE.out _ _)) (by decide)
end Go.Proofs.YtncpnjnmljobgaaDoor
