/-
  Contracts of the functions that draw tasks.
-/
import Derived.Test.YtncpnjnmljobgaaDoorDraw
import Derived.Test.YtncpnjnmljobgaaDoorDrawWords
import Derived.Deep.DeepCutAuto
namespace Go.Proofs.YtncpnjnmljobgaaDoor
set_option maxRecDepth 100000
open Go.RowKit
set_option maxHeartbeats 2000000 in
theorem c_l1Wrong (g : Nat) (A : Option Addr) (n c : Nat) (p : Int) (l h d e : Int) (cr : Bool) (w : World) (hr : Rd w g A n c p) (hp : 0 ≤ p) (hp' : p ≤ 999990) (hn : n ≤ 2000) :
    Calls Tryd.prog 45 #[.pointer (some ⟨g, 0, none⟩), .agg #[.int .i64 l, .int .i64 h, .int .i64 d, .int .i64 e, .bool cr]] w (DrawnV w g A n c p (p + 2) TaskV) := by
  have hgl := hr.lt
  have hgn : w.heap.size ≠ g := by omega
  have hgn' : w.heap.size + 1 ≠ g := by omega
  have H := Lib.hid (hr.below (below2 (below_alloc (.cells #[.int .i64 l, .int .i64 h, .int .i64 d, .int .i64 e, .bool cr] 24)) (below_alloc (.cells #[.int .i64 0, .int .i64 0, .int .i64 0, .int .i64 0, .bool false] 24))))
  clear hr
  go_enter Tryd.func45, Tryd.ntmps45
  go_wp2_with fail
  refine (c_pick g A n c p 20 _ H.out (by omega) (by omega) hn (by omega)).mono ?_
  rintro r w1 ⟨v, _, rfl, hg1, p1, hp1, hp1', hr1⟩
  have HR1 := Lib.hid hr1
  have HG1 := Lib.hid hg1
  obtain ⟨hq1, hq2⟩ := gcell hg1
  obtain ⟨k0, k1, k2, k3, k4⟩ := box5 hg1 hgn
  have hz1 : w.heap.size < w1.heap.size ∧ w.heap.size + 1 < w1.heap.size := by have := hg1.size; simp at this; omega
  clear hr1 hg1
  by_cases hv0 : v = 0
  · subst hv0
    go_wp2_with fail
    refine (c_num [0, -1, 21, 1] anyI (all_any _) g _ A n c p1 _ _ (by simp) HR1.out (by omega) (by omega) hn (by simp) (by simp)).mono ?_
    rintro r w2 ⟨a, _, rfl, hg2, p2, hp2, hp2', hr2⟩
    have HG2 := Lib.hid (grown_trans HG1.out hg2)
    have HR2 := Lib.hid hr2
    clear hr2 hg2 hq1 hq2 hz1 k0 k1 k2 k3 k4
    obtain ⟨hq1, hq2⟩ := gcell HG2.out
    obtain ⟨k0, k1, k2, k3, k4⟩ := box5 HG2.out hgn
    have hz1 : w.heap.size < w2.heap.size ∧ w.heap.size + 1 < w2.heap.size := by have := HG2.out.size; simp at this; omega
    go_wp2
    refine bodyPost_ret (v := .agg #[.int .i64 a, .int .i64 h, .int .i64 d, .int .i64 e, .bool cr]) (by simp [results, Tryd.results45, go_sem, hq1, hgn']) rfl ⟨_, ⟨_, _, _, _, _, rfl⟩, rfl, ?_, p2, by omega, by omega, ?_⟩
    · have hG := grown_trans (below_grown (below2 (below_alloc _) (below_alloc _)) _) HG2.out
      repeat (with_reducible refine grown_at ?_ (by omega) _)
      exact hG
    · repeat (with_reducible refine Rd.other ?_ (by omega) (by omega) _)
      exact HR2.out
  by_cases hv1 : v = 1
  · subst hv1
    go_wp2_with fail
    refine (c_num [0, 21, 5] anyI (all_any _) g _ A n c p1 _ _ (by simp) HR1.out (by omega) (by omega) hn (by simp) (by simp)).mono ?_
    rintro r w2 ⟨a, _, rfl, hg2, p2, hp2, hp2', hr2⟩
    have HG2 := Lib.hid (grown_trans HG1.out hg2)
    have HR2 := Lib.hid hr2
    clear hr2 hg2 hq1 hq2 hz1 k0 k1 k2 k3 k4
    obtain ⟨hq1, hq2⟩ := gcell HG2.out
    obtain ⟨k0, k1, k2, k3, k4⟩ := box5 HG2.out hgn
    have hz1 : w.heap.size < w2.heap.size ∧ w.heap.size + 1 < w2.heap.size := by have := HG2.out.size; simp at this; omega
    go_wp2
    refine bodyPost_ret (v := .agg #[.int .i64 l, .int .i64 a, .int .i64 d, .int .i64 e, .bool cr]) (by simp [results, Tryd.results45, go_sem, hq1, hgn']) rfl ⟨_, ⟨_, _, _, _, _, rfl⟩, rfl, ?_, p2, by omega, by omega, ?_⟩
    · have hG := grown_trans (below_grown (below2 (below_alloc _) (below_alloc _)) _) HG2.out
      repeat (with_reducible refine grown_at ?_ (by omega) _)
      exact hG
    · repeat (with_reducible refine Rd.other ?_ (by omega) (by omega) _)
      exact HR2.out
  by_cases hv2 : v = 2
  · subst hv2
    go_wp2_with fail
    refine (c_num [0, 21, 20] anyI (all_any _) g _ A n c p1 _ _ (by simp) HR1.out (by omega) (by omega) hn (by simp) (by simp)).mono ?_
    rintro r w2 ⟨a, _, rfl, hg2, p2, hp2, hp2', hr2⟩
    have HG2 := Lib.hid (grown_trans HG1.out hg2)
    have HR2 := Lib.hid hr2
    clear hr2 hg2 hq1 hq2 hz1 k0 k1 k2 k3 k4
    obtain ⟨hq1, hq2⟩ := gcell HG2.out
    obtain ⟨k0, k1, k2, k3, k4⟩ := box5 HG2.out hgn
    have hz1 : w.heap.size < w2.heap.size ∧ w.heap.size + 1 < w2.heap.size := by have := HG2.out.size; simp at this; omega
    go_wp2
    refine bodyPost_ret (v := .agg #[.int .i64 l, .int .i64 h, .int .i64 a, .int .i64 e, .bool cr]) (by simp [results, Tryd.results45, go_sem, hq1, hgn']) rfl ⟨_, ⟨_, _, _, _, _, rfl⟩, rfl, ?_, p2, by omega, by omega, ?_⟩
    · have hG := grown_trans (below_grown (below2 (below_alloc _) (below_alloc _)) _) HG2.out
      repeat (with_reducible refine grown_at ?_ (by omega) _)
      exact hG
    · repeat (with_reducible refine Rd.other ?_ (by omega) (by omega) _)
      exact HR2.out
  by_cases hv3 : v = 3
  · subst hv3
    go_wp2
    refine bodyPost_ret (v := .agg #[.int .i64 l, .int .i64 h, .int .i64 d, .int .i64 e, .bool (!cr)]) (by simp [results, Tryd.results45, go_sem, hq1, hgn']) rfl ⟨_, ⟨_, _, _, _, _, rfl⟩, rfl, ?_, p1, by omega, by omega, ?_⟩
    · have hG := grown_trans (below_grown (below2 (below_alloc _) (below_alloc _)) _) HG1.out
      repeat (with_reducible refine grown_at ?_ (by omega) _)
      exact hG
    · repeat (with_reducible refine Rd.other ?_ (by omega) (by omega) _)
      exact HR1.out
  by_cases hv4 : v = 4
  · subst hv4
    go_wp2_with fail
    refine (c_num [21, 0, 20] anyI (all_any _) g _ A n c p1 _ _ (by simp) HR1.out (by omega) (by omega) hn (by simp) (by simp)).mono ?_
    rintro r w2 ⟨a, _, rfl, hg2, p2, hp2, hp2', hr2⟩
    have HG2 := Lib.hid (grown_trans HG1.out hg2)
    have HR2 := Lib.hid hr2
    clear hr2 hg2 hq1 hq2 hz1 k0 k1 k2 k3 k4
    obtain ⟨hq1, hq2⟩ := gcell HG2.out
    obtain ⟨k0, k1, k2, k3, k4⟩ := box5 HG2.out hgn
    have hz1 : w.heap.size < w2.heap.size ∧ w.heap.size + 1 < w2.heap.size := by have := HG2.out.size; simp at this; omega
    go_wp2
    refine bodyPost_ret (v := .agg #[.int .i64 l, .int .i64 h, .int .i64 d, .int .i64 a, .bool cr]) (by simp [results, Tryd.results45, go_sem, hq1, hgn']) rfl ⟨_, ⟨_, _, _, _, _, rfl⟩, rfl, ?_, p2, by omega, by omega, ?_⟩
    · have hG := grown_trans (below_grown (below2 (below_alloc _) (below_alloc _)) _) HG2.out
      repeat (with_reducible refine grown_at ?_ (by omega) _)
      exact hG
    · repeat (with_reducible refine Rd.other ?_ (by omega) (by omega) _)
      exact HR2.out
  · have n0 : (v == 0) = false := by rw [beq_eq_false_iff_ne]; omega
    have n1 : (v == 1) = false := by rw [beq_eq_false_iff_ne]; omega
    have n2 : (v == 2) = false := by rw [beq_eq_false_iff_ne]; omega
    have n3 : (v == 3) = false := by rw [beq_eq_false_iff_ne]; omega
    have n4 : (v == 4) = false := by rw [beq_eq_false_iff_ne]; omega
    go_wp2
    refine bodyPost_ret (v := .agg #[.int .i64 l, .int .i64 h, .int .i64 d, .int .i64 e, .bool cr]) (by simp [results, Tryd.results45, go_sem, hq1, hgn']) rfl ⟨_, ⟨_, _, _, _, _, rfl⟩, rfl, ?_, p1, by omega, by omega, ?_⟩
    · have hG := grown_trans (below_grown (below2 (below_alloc _) (below_alloc _)) _) HG1.out
      repeat (with_reducible refine grown_at ?_ (by omega) _)
      exact hG
    · repeat (with_reducible refine Rd.other ?_ (by omega) (by omega) _)
      exact HR1.out
set_option maxHeartbeats 2000000 in
theorem c_l1Task (g : Nat) (A : Option Addr) (n c : Nat) (p : Int) (w : World) (hr : Rd w g A n c p) (hp : 0 ≤ p) (hp' : p ≤ 999990) (hn : n ≤ 2000) :
    Calls Tryd.prog 35 #[.pointer (some ⟨g, 0, none⟩)] w (DrawnV w g A n c p (p + 7) TaskV) := by
  have hgl := hr.lt
  have hgn : w.heap.size ≠ g := by omega
  have H := Lib.hid (hr.below (below_alloc (.cells #[.int .i64 0, .int .i64 0, .int .i64 0, .int .i64 0, .bool false] 24)))
  clear hr
  go_enter Tryd.func35, Tryd.ntmps35
  go_wp2_with fail
  refine (c_num [8, 10, 5, 4, 12, 20, 6, 2] (fun x => 2 ≤ x ∧ x ≤ 20) (by simp) g _ A n c p _ _ (by simp) H.out (by omega) (by omega) hn (by simp) (by simp)).mono ?_
  rintro r w1 ⟨ev, ⟨he0, he1⟩, rfl, hg1, p1, hp1, hp1', hr1⟩
  have HR1 := Lib.hid hr1
  have HG1 := Lib.hid hg1
  clear hr1 hg1
  go_wp2_with fail
  refine (c_pick g A n c p1 _ _ HR1.out (by omega) (by omega) hn (by omega)).mono ?_
  rintro r w2 ⟨v, ⟨hv0, hv1⟩, rfl, hg2, p2, hp2, hp2', hr2⟩
  have hv2 : v ≤ 20 := by omega
  clear hv1
  have HG2 := Lib.hid (grown_trans HG1.out hg2)
  have HR2 := Lib.hid hr2
  clear hr2 hg2
  have hg3n : w2.heap.size ≠ g := by have := HR2.out.lt; omega
  have hz2 : w.heap.size + 1 ≤ w2.heap.size := by have := HG2.out.size; simp at this; omega
  have HR3 := Lib.hid (HR2.out.below (below_alloc (.cells #[.int .i64 (1 + v), .int .i64 (1 + v), .int .i64 ev, .int .i64 ev, .bool false] 24)))
  go_wp2_with fail
  refine (c_pick g A n c p2 2 _ HR3.out (by omega) (by omega) hn (by omega)).mono ?_
  rintro r w3 ⟨x, _, rfl, hg3, p3, hp3, hp3', hr3⟩
  have hB3 := (Blk.new w2 24 #[.int .i64 (1 + v), .int .i64 (1 + v), .int .i64 ev, .int .i64 ev, .bool false]).grown hg3 (by simp; exact hg3n)
  have HG3 := Lib.hid (grown_trans (grown_below HG2.out (below_alloc _)) hg3)
  have HR4 := Lib.hid hr3
  clear hr3 hg3 HR3 HR2 HG2 HR1 HG1 H
  generalize w2.heap.size = B at *
  obtain ⟨k0, k1, k2, k3, k4⟩ := hB3.five
  have f1 := hB3.frozen 1
  have f4 := hB3.frozen 4
  have HB3 := Lib.hid hB3
  clear hB3
  go_upto_if 22 with fail
  go_cut [22] (fun _ wx => Tst (w.alloc (.cells #[.int .i64 0, .int .i64 0, .int .i64 0, .int .i64 0, .bool false] 24)) g A n c p (p + 4) B 24 ev wx)
  case first =>
    by_cases hx : x = 0
    · subst hx
      go_wp2_with fail
      refine (c_pick g A n c p3 _ _ (HR4.out.other (by omega) hg3n _) (by omega) (by omega) hn (by omega)).mono ?_
      rintro r w4 ⟨y, ⟨hy0, hy1⟩, rfl, hg4, p4, hp4, hp4', hr4⟩
      have hy2 : y ≤ 20 := by omega
      have hB4 := (HB3.out.set_ 4 (.bool true)).grown hg4 (by simp; exact hg3n)
      have hG4 := grown_trans (grown_at HG3.out (by simp; omega) _) hg4
      obtain ⟨m0, m1, m2, m3, m4⟩ := (show Blk w4 B 24 #[.int .i64 (1 + v), .int .i64 (1 + v), .int .i64 ev, .int .i64 ev, .bool true] from hB4).five
      have n1 := hB4.frozen 1
      have HB4 := Lib.hid hB4
      have HG4 := Lib.hid hG4
      have HR5 := Lib.hid hr4
      clear hB4 hG4 hr4 hg4 hy1
      go_wp2_with fail
      go_meet
      exact ⟨1 + v, 1 + v + y, ev, true, p4, by omega, by omega, HB4.out.set_ 1 _, grown_at HG4.out (by simp; omega) _, HR5.out.other (by omega) hg3n _, by omega, by omega⟩
    · have hxb : (x == 0) = false := by rw [beq_eq_false_iff_ne]; exact hx
      go_wp2_with fail
      go_meet
      exact ⟨1 + v, 1 + v, ev, false, p3, by omega, by omega, HB3.out, HG3.out, HR4.out, by omega, by omega⟩
  case rest =>
    obtain ⟨l, h, d, cr, p4, hh0, hh1, hB4, hG4, hR4, hq0, hq1⟩ := hcut
    obtain ⟨wo, rfl⟩ : ∃ wo : World, wo = wc := ⟨_, rfl⟩
    clear k0 k1 k2 k3 k4 f1 f4 HR4 HG3 HB3
    obtain ⟨k0, k1, k2, k3, k4⟩ := hB4.five
    have f1 := hB4.frozen 1
    have HB4 := Lib.hid hB4
    have HG4 := Lib.hid hG4
    have HR4 := Lib.hid hR4
    clear hB4 hG4 hR4
    go_upto_if 35 with fail
    go_cut [35] (fun _ wx => Tst (w.alloc (.cells #[.int .i64 0, .int .i64 0, .int .i64 0, .int .i64 0, .bool false] 24)) g A n c p (p + 4) B 24 ev wx)
    case first =>
      by_cases hx : ev < h
      · go_wp2_with fail
        go_meet
        exact ⟨l, ev, d, cr, p4, by omega, by omega, HB4.out.set_ 1 _, grown_at HG4.out (by simp; omega) _, HR4.out.other (by omega) hg3n _, by omega, by omega⟩
      · go_wp2_with fail
        go_meet
        exact ⟨l, h, d, cr, p4, by omega, by omega, HB4.out, HG4.out, HR4.out, by omega, by omega⟩
    case rest =>
      clear hh0 hh1 hq0 hq1 HB4 HG4 HR4 k0 k1 k2 k3 k4 f1
      obtain ⟨l', h', d', cr', p5, hh0, hh1, hB5, hG5, hR5, hq0, hq1⟩ := hcut
      have HB5 := Lib.hid hB5
      have HG5 := Lib.hid hG5
      have HR5 := Lib.hid hR5
      clear hB5 hG5 hR5
      go_wp2_with fail
      refine (c_pick g A n c p5 3 _ HR5.out (by omega) (by omega) hn (by omega)).mono ?_
      rintro r w6 ⟨x6, _, rfl, hg6, p6, hp6, hp6', hr6⟩
      have hB6 := HB5.out.grown hg6 (by simp; exact hg3n)
      have hG6 := grown_trans HG5.out hg6
      obtain ⟨k0, k1, k2, k3, k4⟩ := hB6.five
      have f2 := hB6.frozen 2
      have hBl := hB6.lt
      have HB6 := Lib.hid hB6
      have HG6 := Lib.hid hG6
      have HR6 := Lib.hid hr6
      clear hB6 hG6 hr6 hg6 HB5 HG5 HR5
      have z1 : IntKind.i64.wrap (ev - h') = ev - h' := IntWalk.i64_in _ (by omega)
      have z2 : IntKind.i64.wrap (ev - h' + 1) = ev - h' + 1 := IntWalk.i64_in _ (by omega)
      have ne1 := World.new_ne w6 _ k1
      go_upto_if 40 with fail
      go_cut [40] (fun _ wx => Tst (w.alloc (.cells #[.int .i64 0, .int .i64 0, .int .i64 0, .int .i64 0, .bool false] 24)) g A n c p (p + 6) B 24 ev wx)
      case first =>
        by_cases hx : x6 = 0
        · subst hx
          go_wp2_with fail
          go_region_held3 (fun w' => w'.cell? ⟨B, 1, none⟩ = some (.int .i64 h')) (first | go_keep | (refine (World.cell?_setCell_other _ _ _ _ ?_).trans x1; intro e; injection e; omega)) (first
            | (go_at_call 36; go_must (refine (c_pick g A n c p6 (ev - h' + 1) w6.drew HR6.out (by omega) (by omega) hn (by omega)).mono ?_; rintro r w7 ⟨y, _, rfl, hg7', p7, hp7, hp7', hr7⟩; have hg7 := grown_undrew hg7'; clear hg7'; have x1 := ((gcell hg7).1 B 1 hBl hg3n).trans k1; have x2 := ((gcell hg7).1 B 2 hBl hg3n).trans k2; have x3 := ((gcell hg7).2 B 2 hBl hg3n).trans f2)))
          all_goals
            go_wp2_with fail
            go_meet
            have hB7 := HB6.out.grown hg7 (by simp; exact hg3n)
            exact ⟨l', h', _, cr', p7, hh0, hh1, hB7.set_ 2 _, grown_at (grown_trans HG6.out hg7) (by simp; omega) _, hr7.other (by omega) hg3n _, by omega, by omega⟩
        · have hxb : (x6 == 0) = false := by rw [beq_eq_false_iff_ne]; exact hx
          go_wp2_with fail
          go_meet
          exact ⟨l', h', d', cr', p6, hh0, hh1, HB6.out, HG6.out, HR6.out, by omega, by omega⟩
      case rest =>
        clear hh0 hh1 hq0 hq1 HB6 HG6 HR6 k0 k1 k2 k3 k4 f2 z1 z2 ne1 hBl
        obtain ⟨l2, h2, d2, cr2, p8, hh0, hh1, hB8, hG8, hR8, hq0, hq1⟩ := hcut
        obtain ⟨k0, k1, k2, k3, k4⟩ := hB8.five
        obtain ⟨hq1', hq2'⟩ := gcell hG8
        have HG8 := Lib.hid hG8
        have HR8 := Lib.hid hR8
        clear hB8 hG8 hR8
        go_wp2
        refine bodyPost_ret (v := .agg #[.int .i64 l2, .int .i64 h2, .int .i64 d2, .int .i64 ev, .bool cr2]) (by simp [results, Tryd.results35, go_sem, hq1', hgn]) rfl ⟨_, ⟨_, _, _, _, _, rfl⟩, rfl, ?_, p8, by omega, by omega, ?_⟩
        · have hG := grown_trans (below_grown (below_alloc _) _) HG8.out
          repeat (with_reducible refine grown_at ?_ (by omega) _)
          exact hG
        · repeat (with_reducible refine Rd.other ?_ (by omega) (by omega) _)
          exact HR8.out
set_option maxHeartbeats 1000000 in
theorem c_DrawTaskValid (A : Option Addr) (n c : Nat) (w : World) (h : IsBytes w A n c) (hn : n ≤ 1048576) :
    Calls Tryd.prog 29 #[.slice A n c] w (GotV w TaskV) := by
  have H := Lib.hid (h.below (below_alloc (.cells #[.int .i64 0, .int .i64 0, .int .i64 0, .int .i64 0, .bool false] 24)))
  clear h
  go_enter Tryd.func29, Tryd.ntmps29
  go_wp2_with fail
  refine (c_l11Open A n c _ H.out hn).mono ?_
  rintro r w1 ⟨g, n1, c1, rfl, hg, hn1, hb1, hr1⟩
  have HR1 := Lib.hid hr1
  clear hr1
  go_wp2_with fail
  refine (c_l1Task g A n1 c1 0 _ HR1.out (by omega) (by omega) hn1).mono ?_
  rintro r w2 ⟨v, ⟨l, h, d, e, cr, rfl⟩, rfl, hg2, p2, hp2, hp2', hr2⟩
  have HR2 := Lib.hid hr2
  clear hr2
  go_wp2_with fail
  refine (c_l1Wrong g A n1 c1 p2 _ _ _ _ _ _ HR2.out (by omega) (by omega) hn1).mono ?_
  rintro r w3 ⟨v, ⟨l', h', d', e', cr', rfl⟩, rfl, hg3, p3, hp3, hp3', hr3⟩
  have HR3 := Lib.hid hr3
  clear hr3
  go_wp2_with fail
  refine (c_l1Wrong g A n1 c1 p3 _ _ _ _ _ _ HR3.out (by omega) (by omega) hn1).mono ?_
  rintro r w4 ⟨v, ⟨l2, h2, d2, e2, cr2, rfl⟩, rfl, hg4, p4, hp4, hp4', hr4⟩
  clear hr4
  simp only [World.size_alloc] at hg
  have HB := Lib.hid (below_src hb1 (by simp; exact hg) (grown_trans hg2 (grown_trans hg3 hg4)))
  clear hb1 hg2 hg3 hg4
  obtain ⟨hc1, hf1⟩ := bcell HB.out
  have hz1 := lt1 HB.out
  have hB := below2 (below_alloc _) HB.out
  go_wp2
  refine bodyPost_ret (v := .agg #[.int .i64 l2, .int .i64 h2, .int .i64 d2, .int .i64 e2, .bool cr2]) (by simp [results, Tryd.results29, go_sem, hc1]) rfl ⟨_, ⟨_, _, _, _, _, rfl⟩, rfl, ?_⟩
  go_grown
end Go.Proofs.YtncpnjnmljobgaaDoor
