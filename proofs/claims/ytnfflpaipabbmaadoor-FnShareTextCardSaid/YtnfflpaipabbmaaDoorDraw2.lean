/-
  Contracts of the functions that draw shares and tasks.
-/
import Derived.Test.YtnfflpaipabbmaaDoorDrawWords
import Derived.Test.YtnfflpaipabbmaaDoorShare2
import Derived.Deep.DeepCutAuto
namespace Go.Proofs.YtnfflpaipabbmaaDoor
set_option maxRecDepth 100000
open Go.RowKit
/-- The result's own block, made first and written last. -/
theorem own_box {w w' : World} {g : Nat} {o : Obj} {u v : Value} (h : (w.alloc o).grownBy w' (some g)) : w.grownBy ((w'.setCell ⟨w.heap.size, 0, none⟩ u).setCell ⟨w.heap.size, 1, none⟩ v) (some g) := by
  have h1 : w.grownBy w' (some g) := grown_trans (below_grown (below_alloc o) _) h
  refine ⟨h1.os, h1.tape, h1.output, by simp [World.setCell]; exact h1.size, fun i hi hn => ?_⟩
  rw [Below.heap_setCell _ _ _ _ (by show i ≠ w.heap.size; omega), Below.heap_setCell _ _ _ _ (by show i ≠ w.heap.size; omega)]
  exact h1.block i hi hn
theorem own_box_rd {w' : World} {g b : Nat} {A : Option Addr} {n c : Nat} {p : Int} {u v : Value} (h : Rd w' g A n c p) (hb : g < b) (_hn : b ≠ g) : Rd ((w'.setCell ⟨b, 0, none⟩ u).setCell ⟨b, 1, none⟩ v) g A n c p := (h.other (by omega) (by omega) u).other (by omega) (by omega) v
set_option maxHeartbeats 1000000 in
theorem c_l2Draw (g : Nat) (A : Option Addr) (n c : Nat) (p : Int) (w : World) (h : Rd w g A n c p) (hp : 0 ≤ p) (hp' : p ≤ 999990) (hn : n ≤ 2000) :
    Calls Tryd.prog 32 #[.pointer (some ⟨g, 0, none⟩)] w (DrawnV w g A n c p (p + 5) ShareV) := by
  have hgl := h.lt
  have hgn : w.heap.size ≠ g := by omega
  have H := Lib.hid (h.below (below_alloc (.cells #[.int .i64 0, .int .i64 0] 31)))
  clear h
  go_enter Tryd.func32, Tryd.ntmps32
  go_wp2_with fail
  refine (c_num [1, 2, 0, 3, 7, 12, 999999999] anyI (all_any _) g _ A n c p _ _ (by simp) H.out (by omega) (by omega) hn (by simp) (by simp)).mono ?_
  rintro r w1 ⟨a, _, rfl, hg1, p1, hp1, hp1', hr1⟩
  have HR1 := Lib.hid hr1
  clear hr1
  go_wp2_with fail
  refine (c_num [2, 3, 1, 4, 12, 20, 1000000000] anyI (all_any _) g _ A n c p1 _ _ (by simp) HR1.out (by omega) (by omega) hn (by simp) (by simp)).mono ?_
  rintro r w2 ⟨b, _, rfl, hg2, p2, hp2, hp2', hr2⟩
  have HG2 := Lib.hid (grown_trans hg1 hg2)
  have HR2 := Lib.hid hr2
  clear hr2 hg1 hg2
  go_wp2_with fail
  refine (c_spec_MakeShare _ _ _).mono ?_
  rintro r w3 ⟨rfl, hb3⟩
  have HG3 := Lib.hid (grown_below HG2.out hb3)
  have HR3 := Lib.hid (HR2.out.below hb3)
  clear hb3
  have hz3 : w.heap.size < w3.heap.size := by have := HG3.out.size; simp at this; omega
  have HR4 := Lib.hid (HR3.out.below (below_alloc (.cells #[.int .i64 (msN a b), .int .i64 (msD a b)] 31)))
  have hg3n : w3.heap.size ≠ g := by have := HR3.out.lt; omega
  go_wp2_with fail
  refine (c_pick g A n c p2 16 _ HR4.out (by omega) (by omega) hn (by omega)).mono ?_
  rintro r w4 ⟨v, hv, rfl, hg4, p4, hp4, hp4', hr4⟩
  have HG4 := Lib.hid (grown_trans (grown_below HG3.out (below_alloc _)) hg4)
  have HR5 := Lib.hid hr4
  have hc0 : w4.cell? ⟨w3.heap.size, 0, none⟩ = some (.int .i64 (msN a b)) := ((gcell hg4).1 _ 0 (by simp) hg3n).trans (by simp)
  have hc1 : w4.cell? ⟨w3.heap.size, 1, none⟩ = some (.int .i64 (msD a b)) := ((gcell hg4).1 _ 1 (by simp) hg3n).trans (by simp)
  obtain ⟨hq1, hq2⟩ := gcell HG4.out
  have hz4 : w.heap.size < w4.heap.size := by have := HG4.out.size; simp at this; omega
  clear hr4 hg4
  by_cases hv0 : v = 0
  · subst hv0
    clear hc0 hc1 hq1 hq2
    go_wp2_with fail
    refine (c_num [2, -1, 0] anyI (all_any _) g _ A n c p4 _ _ (by simp) HR5.out (by omega) (by omega) hn (by simp) (by simp)).mono ?_
    rintro r w5 ⟨a', _, rfl, hg5, p5, hp5, hp5', hr5⟩
    have HR6 := Lib.hid hr5
    clear hr5
    go_wp2_with fail
    refine (c_num [4, 0, -1, 2] anyI (all_any _) g _ A n c p5 _ _ (by simp) HR6.out (by omega) (by omega) hn (by simp) (by simp)).mono ?_
    rintro r w6 ⟨b', _, rfl, hg6, p6, hp6, hp6', hr6⟩
    have HR7 := Lib.hid hr6
    have HG6 := Lib.hid (grown_trans HG4.out (grown_trans hg5 hg6))
    clear hr6 hg5 hg6
    obtain ⟨hq1, hq2⟩ := gcell HG6.out
    have hz6 : w.heap.size < w6.heap.size := by have := HG6.out.size; simp at this; omega
    go_wp2
    refine bodyPost_ret (v := .agg #[.int .i64 a', .int .i64 b']) (by simp [results, Tryd.results32, go_sem, hq1, hgn]) rfl ⟨_, ⟨a', b', rfl⟩, rfl, own_box HG6.out, p6, by omega, by omega, own_box_rd HR7.out hgl hgn⟩
  · have hvb : (v == 0) = false := by rw [beq_eq_false_iff_ne]; exact hv0
    go_wp2
    refine bodyPost_ret (v := .agg #[.int .i64 (msN a b), .int .i64 (msD a b)]) (by simp [results, Tryd.results32, go_sem, hq1, hgn]) rfl ⟨_, ⟨msN a b, msD a b, rfl⟩, rfl, own_box HG4.out, p4, by omega, by omega, own_box_rd HR5.out hgl hgn⟩
set_option maxHeartbeats 400000 in
theorem c_DrawFormatShare (A : Option Addr) (n c : Nat) (w : World) (h : IsBytes w A n c) (hn : n ≤ 1048576) :
    Calls Tryd.prog 16 #[.slice A n c] w (GotV w ShareV) := by
  have H := Lib.hid (h.below (below_alloc (.cells #[.int .i64 0, .int .i64 0] 31)))
  clear h
  go_enter Tryd.func16, Tryd.ntmps16
  go_wp2_with fail
  refine (c_l11Open A n c _ H.out hn).mono ?_
  rintro r w1 ⟨g, n1, c1, rfl, hg, hn1, hb1, hr1⟩
  have HR1 := Lib.hid hr1
  clear hr1
  go_wp2_with fail
  refine (c_l2Draw g A n1 c1 0 _ HR1.out (by omega) (by omega) hn1).mono ?_
  rintro r w2 ⟨v, ⟨a, b, rfl⟩, rfl, hg2, p2, hp2, hp2', hr2⟩
  clear hr2
  simp only [World.size_alloc] at hg
  have HB := Lib.hid (below_src hb1 (by simp; exact hg) hg2)
  clear hb1 hg2
  obtain ⟨hc1, hf1⟩ := bcell HB.out
  have hz1 := lt1 HB.out
  have hB := below2 (below_alloc _) HB.out
  go_wp2
  refine bodyPost_ret (v := .agg #[.int .i64 a, .int .i64 b]) (by simp [results, Tryd.results16, go_sem, hc1]) rfl ⟨_, ⟨a, b, rfl⟩, rfl, ?_⟩
  go_grown
end Go.Proofs.YtnfflpaipabbmaaDoor
