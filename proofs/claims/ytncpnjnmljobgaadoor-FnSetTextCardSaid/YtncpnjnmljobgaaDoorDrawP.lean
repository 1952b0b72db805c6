/-
  The drawing of texts (printed by gen_drawp.py).
-/
import Derived.Test.YtncpnjnmljobgaaDoorDraw3
import Derived.Test.YtncpnjnmljobgaaDoorText2
import Derived.Test.YtncpnjnmljobgaaDoorSetT
import Derived.Test.YtncpnjnmljobgaaDoorOwnS
namespace Go.Proofs.YtncpnjnmljobgaaDoor
set_option maxRecDepth 100000
open Go.RowKit
def TaskOk (v : Value) : Prop := ∃ (l h d e : Int) (c : Bool), v = .agg #[.int .i64 l, .int .i64 h, .int .i64 d, .int .i64 e, .bool c] ∧ tvB l h d e c = true
/-- The state of l1Task between its steps, with P of the task. -/
def TstP (P : Int → Int → Int → Bool → Prop) (w0 : World) (g : Nat) (A : Option Addr) (n c : Nat) (p q : Int) (b T : Nat) (ev : Int) (wx : World) : Prop :=
  ∃ (l h d : Int) (cr : Bool) (p' : Int), 0 ≤ h ∧ h ≤ 1000 ∧ Blk wx b T #[.int .i64 l, .int .i64 h, .int .i64 d, .int .i64 ev, .bool cr] ∧ w0.grownBy wx (some g) ∧ Rd wx g A n c p' ∧ p ≤ p' ∧ p' ≤ q ∧ P l h d cr
set_option maxHeartbeats 2000000 in
theorem c_l1Task_ok (g : Nat) (A : Option Addr) (n c : Nat) (p : Int) (w : World) (hr : Rd w g A n c p) (hp : 0 ≤ p) (hp' : p ≤ 999990) (hn : n ≤ 2000) :
    Calls Tryd.prog 35 #[.pointer (some ⟨g, 0, none⟩)] w (DrawnV w g A n c p (p + 7) TaskOk) := by
  have hgl := hr.lt
  have hgn : w.heap.size ≠ g := by omega
  have H := Lib.hid (hr.below (below_alloc (.cells #[.int .i64 0, .int .i64 0, .int .i64 0, .int .i64 0, .bool false] 24)))
  clear hr
  go_enter Tryd.func35, Tryd.ntmps35
  go_wp2_with fail
  refine (c_num [8, 10, 5, 4, 12, 20, 6, 2] (fun x => 2 ≤ x ∧ x ≤ 20) (by simp) g _ A n c p _ _ (by simp) H.out (by omega) (by omega) hn (by simp) (by simp)).mono ?_
  rintro r w1 ⟨ev, ⟨he0, he1⟩, rfl, hg1, p1, hp1, hp1', hr1⟩
  have HR1 := Lib.hid hr1
  have HG1 := Lib.hid hg1
  clear hr1 hg1
  go_wp2_with fail
  refine (c_pick g A n c p1 _ _ HR1.out (by omega) (by omega) hn (by omega)).mono ?_
  rintro r w2 ⟨v, ⟨hv0, hv1⟩, rfl, hg2, p2, hp2, hp2', hr2⟩
  have hv2 : v ≤ 20 := by omega
  have hv3 : 1 + v ≤ ev := by omega
  clear hv1
  have HG2 := Lib.hid (grown_trans HG1.out hg2)
  have HR2 := Lib.hid hr2
  clear hr2 hg2
  have hg3n : w2.heap.size ≠ g := by have := HR2.out.lt; omega
  have hz2 : w.heap.size + 1 ≤ w2.heap.size := by have := HG2.out.size; simp at this; omega
  have HR3 := Lib.hid (HR2.out.below (below_alloc (.cells #[.int .i64 (1 + v), .int .i64 (1 + v), .int .i64 ev, .int .i64 ev, .bool false] 24)))
  go_wp2_with fail
  refine (c_pick g A n c p2 2 _ HR3.out (by omega) (by omega) hn (by omega)).mono ?_
  rintro r w3 ⟨x, _, rfl, hg3, p3, hp3, hp3', hr3⟩
  have hB3 := (Blk.new w2 24 #[.int .i64 (1 + v), .int .i64 (1 + v), .int .i64 ev, .int .i64 ev, .bool false]).grown hg3 (by simp; exact hg3n)
  have HG3 := Lib.hid (grown_trans (grown_below HG2.out (below_alloc _)) hg3)
  have HR4 := Lib.hid hr3
  clear hr3 hg3 HR3 HR2 HG2 HR1 HG1 H
  generalize w2.heap.size = B at *
  obtain ⟨k0, k1, k2, k3, k4⟩ := hB3.five
  have f1 := hB3.frozen 1
  have f4 := hB3.frozen 4
  have HB3 := Lib.hid hB3
  clear hB3
  go_upto_if 22 with fail
  go_cut [22] (fun _ wx => TstP (fun l h d cr => 1 ≤ l ∧ l ≤ ev ∧ l ≤ h ∧ d = ev ∧ (cr = true ∨ l = h)) (w.alloc (.cells #[.int .i64 0, .int .i64 0, .int .i64 0, .int .i64 0, .bool false] 24)) g A n c p (p + 4) B 24 ev wx)
  case first =>
    by_cases hx : x = 0
    · subst hx
      go_wp2_with fail
      refine (c_pick g A n c p3 _ _ (HR4.out.other (by omega) hg3n _) (by omega) (by omega) hn (by omega)).mono ?_
      rintro r w4 ⟨y, ⟨hy0, hy1⟩, rfl, hg4, p4, hp4, hp4', hr4⟩
      have hy2 : y ≤ 20 := by omega
      have hB4 := (HB3.out.set_ 4 (.bool true)).grown hg4 (by simp; exact hg3n)
      have hG4 := grown_trans (grown_at HG3.out (by simp; omega) _) hg4
      obtain ⟨m0, m1, m2, m3, m4⟩ := (show Blk w4 B 24 #[.int .i64 (1 + v), .int .i64 (1 + v), .int .i64 ev, .int .i64 ev, .bool true] from hB4).five
      have n1 := hB4.frozen 1
      have HB4 := Lib.hid hB4
      have HG4 := Lib.hid hG4
      have HR5 := Lib.hid hr4
      clear hB4 hG4 hr4 hg4 hy1
      go_wp2_with fail
      go_meet
      exact ⟨1 + v, 1 + v + y, ev, true, p4, by omega, by omega, HB4.out.set_ 1 _, grown_at HG4.out (by simp; omega) _, HR5.out.other (by omega) hg3n _, by omega, by omega, by omega, by omega, by omega, rfl, .inl rfl⟩
    · have hxb : (x == 0) = false := by rw [beq_eq_false_iff_ne]; exact hx
      go_wp2_with fail
      go_meet
      exact ⟨1 + v, 1 + v, ev, false, p3, by omega, by omega, HB3.out, HG3.out, HR4.out, by omega, by omega, by omega, by omega, by omega, rfl, .inr rfl⟩
  case rest =>
    obtain ⟨l, h, d, cr, p4, hh0, hh1, hB4, hG4, hR4, hq0, hq1, u1, u2, u3, u4, u5⟩ := hcut
    have HU := Lib.hid (And.intro u1 (And.intro u2 (And.intro u3 (And.intro u4 u5))))
    clear u1 u2 u3 u4 u5
    obtain ⟨wo, rfl⟩ : ∃ wo : World, wo = wc := ⟨_, rfl⟩
    clear k0 k1 k2 k3 k4 f1 f4 HR4 HG3 HB3
    obtain ⟨k0, k1, k2, k3, k4⟩ := hB4.five
    have f1 := hB4.frozen 1
    have HB4 := Lib.hid hB4
    have HG4 := Lib.hid hG4
    have HR4 := Lib.hid hR4
    clear hB4 hG4 hR4
    go_upto_if 35 with fail
    go_cut [35] (fun _ wx => TstP (fun l h d cr => 1 ≤ l ∧ l ≤ h ∧ h ≤ ev ∧ d = ev ∧ (cr = true ∨ l = h)) (w.alloc (.cells #[.int .i64 0, .int .i64 0, .int .i64 0, .int .i64 0, .bool false] 24)) g A n c p (p + 4) B 24 ev wx)
    case first =>
      by_cases hx : ev < h
      · go_wp2_with fail
        go_meet
        exact ⟨l, ev, d, cr, p4, by omega, by omega, HB4.out.set_ 1 _, grown_at HG4.out (by simp; omega) _, HR4.out.other (by omega) hg3n _, by omega, by omega, by have := HU.out; omega, by have := HU.out; omega, by omega, HU.out.2.2.2.1, by rcases HU.out.2.2.2.2 with h1 | h1; exact .inl h1; exact absurd (HU.out.2.1) (by omega)⟩
      · go_wp2_with fail
        go_meet
        exact ⟨l, h, d, cr, p4, by omega, by omega, HB4.out, HG4.out, HR4.out, by omega, by omega, HU.out.1, HU.out.2.2.1, by omega, HU.out.2.2.2.1, HU.out.2.2.2.2⟩
    case rest =>
      clear hh0 hh1 hq0 hq1 HB4 HG4 HR4 k0 k1 k2 k3 k4 f1
      clear HU
      obtain ⟨l', h', d', cr', p5, hh0, hh1, hB5, hG5, hR5, hq0, hq1, u1, u2, u3, u4, u5⟩ := hcut
      have HU := Lib.hid (And.intro u1 (And.intro u2 (And.intro u3 (And.intro u4 u5))))
      clear u1 u2 u3 u4 u5
      have HB5 := Lib.hid hB5
      have HG5 := Lib.hid hG5
      have HR5 := Lib.hid hR5
      clear hB5 hG5 hR5
      go_wp2_with fail
      refine (c_pick g A n c p5 3 _ HR5.out (by omega) (by omega) hn (by omega)).mono ?_
      rintro r w6 ⟨x6, _, rfl, hg6, p6, hp6, hp6', hr6⟩
      have hB6 := HB5.out.grown hg6 (by simp; exact hg3n)
      have hG6 := grown_trans HG5.out hg6
      obtain ⟨k0, k1, k2, k3, k4⟩ := hB6.five
      have f2 := hB6.frozen 2
      have hBl := hB6.lt
      have HB6 := Lib.hid hB6
      have HG6 := Lib.hid hG6
      have HR6 := Lib.hid hr6
      clear hB6 hG6 hr6 hg6 HB5 HG5 HR5
      have z1 : IntKind.i64.wrap (ev - h') = ev - h' := IntWalk.i64_in _ (by omega)
      have z2 : IntKind.i64.wrap (ev - h' + 1) = ev - h' + 1 := IntWalk.i64_in _ (by omega)
      have ne1 := World.new_ne w6 _ k1
      go_upto_if 40 with fail
      go_cut [40] (fun _ wx => TstP (fun l h d cr => 1 ≤ l ∧ l ≤ h ∧ h ≤ d ∧ d ≤ ev ∧ (cr = true ∨ l = h)) (w.alloc (.cells #[.int .i64 0, .int .i64 0, .int .i64 0, .int .i64 0, .bool false] 24)) g A n c p (p + 6) B 24 ev wx)
      case first =>
        by_cases hx : x6 = 0
        · subst hx
          go_wp2_with fail
          go_region_held3 (fun w' => w'.cell? ⟨B, 1, none⟩ = some (.int .i64 h')) (first | go_keep | (refine (World.cell?_setCell_other _ _ _ _ ?_).trans x1; intro e; injection e; omega)) (first
            | (go_at_call 36; go_must (refine (c_pick g A n c p6 (ev - h' + 1) w6.drew HR6.out (by omega) (by omega) hn (by omega)).mono ?_; rintro r w7 ⟨y, ⟨hy0, hy1⟩, rfl, hg7', p7, hp7, hp7', hr7⟩; have hg7 := grown_undrew hg7'; clear hg7'; have x1 := ((gcell hg7).1 B 1 hBl hg3n).trans k1; have x2 := ((gcell hg7).1 B 2 hBl hg3n).trans k2; have x3 := ((gcell hg7).2 B 2 hBl hg3n).trans f2)))
          all_goals
            go_wp2_with fail
            go_meet
            have hu3 := HU.out.2.2.1
            have z3 : IntKind.i64.wrap (h' + y) = h' + y := IntWalk.i64_in _ (by omega)
            have hB7 := HB6.out.grown hg7 (by simp; exact hg3n)
            exact ⟨l', h', _, cr', p7, hh0, hh1, hB7.set_ 2 _, grown_at (grown_trans HG6.out hg7) (by simp; omega) _, hr7.other (by omega) hg3n _, by omega, by omega, HU.out.1, HU.out.2.1, by omega, by omega, HU.out.2.2.2.2⟩
        · have hxb : (x6 == 0) = false := by rw [beq_eq_false_iff_ne]; exact hx
          go_wp2_with fail
          go_meet
          exact ⟨l', h', d', cr', p6, hh0, hh1, HB6.out, HG6.out, HR6.out, by omega, by omega, HU.out.1, HU.out.2.1, by have h1 := HU.out.2.2.1; have h2 := HU.out.2.2.2.1; omega, by have h2 := HU.out.2.2.2.1; omega, HU.out.2.2.2.2⟩
      case rest =>
        clear hh0 hh1 hq0 hq1 HB6 HG6 HR6 k0 k1 k2 k3 k4 f2 z1 z2 ne1 hBl
        clear HU
        obtain ⟨l2, h2, d2, cr2, p8, hh0, hh1, hB8, hG8, hR8, hq0, hq1, u1, u2, u3, u4, u5⟩ := hcut
        have HOK := Lib.hid (show tvB l2 h2 d2 ev cr2 = true from tvB_mk ⟨u1, u2, u3, u4, by omega, u5⟩)
        clear u1 u2 u3 u4 u5
        obtain ⟨k0, k1, k2, k3, k4⟩ := hB8.five
        obtain ⟨hq1', hq2'⟩ := gcell hG8
        have HG8 := Lib.hid hG8
        have HR8 := Lib.hid hR8
        clear hB8 hG8 hR8
        go_wp2
        refine bodyPost_ret (v := .agg #[.int .i64 l2, .int .i64 h2, .int .i64 d2, .int .i64 ev, .bool cr2]) (by simp [results, Tryd.results35, go_sem, hq1', hgn]) rfl ⟨_, ⟨_, _, _, _, _, rfl, HOK.out⟩, rfl, ?_, p8, by omega, by omega, ?_⟩
        · have hG := grown_trans (below_grown (below_alloc _) _) HG8.out
          repeat (with_reducible refine grown_at ?_ (by omega) _)
          exact hG
        · repeat (with_reducible refine Rd.other ?_ (by omega) (by omega) _)
          exact HR8.out
/-- Block b holds words. -/
def Strs (w : World) (b L : Nat) : Prop := ∀ i : Nat, i < L → ∃ s : ByteArray, s.size ≤ 2 ∧ w.cell? ⟨b, i, none⟩ = some (.string s)
def WordV (v : Value) : Prop := ∃ s : ByteArray, v = .string s ∧ s.size ≤ 2
set_option maxHeartbeats 1000000 in
theorem c_of (g b L : Nat) (A : Option Addr) (n c : Nat) (p : Int) (w : World) (h : Rd w g A n c p) (hp : 0 ≤ p) (hp' : p ≤ 1000000) (hn : n ≤ 2000) (hL : 0 < L) (hL' : L ≤ 1000) (hbg : b ≠ g) (hP : Strs w b L) :
    Calls Tryd.prog 37 #[.pointer (some ⟨g, 0, none⟩), .slice (some ⟨b, 0, none⟩) L L] w (DrawnV w g A n c p (p + 1) WordV) := by
  have H := Lib.hid hP
  clear hP
  go_enter Tryd.func37, Tryd.ntmps37
  go_wp2_with fail
  refine (c_pick g A n c p L w h hp hp' hn (by omega)).mono ?_
  rintro r w1 ⟨v, ⟨hv0, hv1⟩, rfl, hg, p', hp1, hp2, hr⟩
  obtain ⟨i, rfl⟩ := Int.eq_ofNat_of_zero_le hv0
  have hi : i < L := by omega
  obtain ⟨u, hu, hcell⟩ := H.out i hi
  have hc1 : w1.cell? ⟨b, i, none⟩ = some (.string u) := hg.cell hcell (by simp; exact hbg)
  have HG := Lib.hid hg
  have HR := Lib.hid hr
  clear hg hr h hcell hv1
  go_wp2
  go_ret
  exact ⟨_, ⟨u, rfl, hu⟩, rfl, HG.out, p', hp1, hp2, HR.out⟩
/-- A text that is not long. -/
def TextV (v : Value) : Prop := ∃ s : ByteArray, v = .string s ∧ s.size ≤ 500
set_option maxHeartbeats 4000000 in
theorem c_DrawParseTask (A : Option Addr) (n c : Nat) (w : World) (h : IsBytes w A n c) (hn : n ≤ 1048576) : Calls Tryd.prog 14 #[.slice A n c] w (GotV w TextV) := by
  go_enter Tryd.func14, Tryd.ntmps14
  go_wp2_with fail
  refine (c_l11Open A n c _ h hn).mono ?_
  rintro r w1 ⟨g, n1, c1, rfl, hg, hn1, hb1, hr1⟩
  have HR1 := Lib.hid hr1
  have HB1 := Lib.hid hb1
  clear hr1 hb1 h
  go_wp2_with fail
  refine (c_l1Task_ok g A n1 c1 0 _ HR1.out (by omega) (by omega) hn1).mono ?_
  rintro r w2 ⟨v, ⟨l, h, d, e, cr, rfl, hok⟩, rfl, hg2, p2, hp2, hp2', hr2⟩
  have HR2 := Lib.hid hr2
  have HG2 := Lib.hid hg2
  have CF := Lib.hid (c_spec_FormatTask l h d e cr)
  have hz0 : 0 < (bs (fmtT ⟨l, h, d, e, cr⟩)).size := by
    rw [bs_size, fmtT_yes (t := ⟨l, h, d, e, cr⟩) hok]
    unfold fmtL
    have := dec_ne l
    cases hd : dec l with
    | nil => exact absurd hd this
    | cons _ _ => simp
  have hz1 : (bs (fmtT ⟨l, h, d, e, cr⟩)).size ≤ 100 := by
    rw [bs_size]
    have := fmtT_len (t := ⟨l, h, d, e, cr⟩) hok
    omega
  generalize bs (fmtT ⟨l, h, d, e, cr⟩) = s at CF hz0 hz1
  clear hr2 hg2 hok HR1
  go_wp2_with fail
  refine (CF.out _).mono ?_
  rintro r w3 ⟨rfl, hb3⟩
  have HR3 := Lib.hid (HR2.out.below hb3)
  have HG3 := Lib.hid (grown_below HG2.out hb3)
  clear hb3 HR2 HG2 CF
  go_wp2_with fail
  refine (c_pick g A n1 c1 p2 2 _ HR3.out (by omega) (by omega) hn1 (by omega)).mono ?_
  rintro r w4 ⟨x, _, rfl, hg4, p4, hp4, hp4', hr4⟩
  have HR4 := Lib.hid hr4
  have HG4 := Lib.hid (grown_trans HG3.out hg4)
  clear hr4 hg4 HR3 HG3
  by_cases hx : x = 0
  · subst hx
    go_wp2
    go_ret
    exact ⟨_, ⟨s, rfl, by omega⟩, rfl, below_src HB1.out hg HG4.out⟩
  have hxb : (x == 0) = false := by rw [beq_eq_false_iff_ne]; exact hx
  go_wp2_with fail
  refine (c_pick g A n1 c1 p4 s.size _ HR4.out (by omega) (by omega) hn1 (by omega)).mono ?_
  rintro r w5 ⟨k, ⟨hk0, hk1⟩, rfl, hg5, p5, hp5, hp5', hr5⟩
  obtain ⟨i, rfl⟩ := Int.eq_ofNat_of_zero_le hk0
  have hi : i < s.size := by omega
  have HR5 := Lib.hid hr5
  have HG5 := Lib.hid (grown_trans HG4.out hg5)
  clear hr5 hg5 HR4 HG4 hk0 hk1
  go_upto_region 6 with (fail)
  have HE := Lib.hid (show ∀ a b : Nat, (s.extract a b).size ≤ 100 from fun a b => by rw [ByteArray.size_extract]; omega)
  have hk0 : (0 : Int) ≤ (i : Int) := by omega
  have hk1 : (i : Int) ≤ (s.size : Int) := by omega
  have HRB := Lib.hid (show Rd (w5.alloc (.cells #[.string { data := #[] }, .string { data := #[32] }, .string { data := #[47] }, .string { data := #[48] }, .string { data := #[49] }, .string { data := #[98, 121] }] 9)).drew g A n1 c1 p5 from Rd.drewN (HR5.out.below (below_alloc _)) 1)
  have HST := Lib.hid (show Strs (w5.alloc (.cells #[.string { data := #[] }, .string { data := #[32] }, .string { data := #[47] }, .string { data := #[48] }, .string { data := #[49] }, .string { data := #[98, 121] }] 9)).drew w5.heap.size 6 from by
    intro j hj
    have hc : ∀ o, (w5.alloc (.cells #[.string { data := #[] }, .string { data := #[32] }, .string { data := #[47] }, .string { data := #[48] }, .string { data := #[49] }, .string { data := #[98, 121] }] 9)).drew.cell? ⟨w5.heap.size, o, none⟩ = (#[.string { data := #[] }, .string { data := #[32] }, .string { data := #[47] }, .string { data := #[48] }, .string { data := #[49] }, .string { data := #[98, 121] }] : Array Value)[o]? := fun o => World.cell?_alloc_new ..
    match j, hj with
    | 0, _ => exact ⟨_, by decide, hc 0⟩
    | 1, _ => exact ⟨_, by decide, hc 1⟩
    | 2, _ => exact ⟨_, by decide, hc 2⟩
    | 3, _ => exact ⟨_, by decide, hc 3⟩
    | 4, _ => exact ⟨_, by decide, hc 4⟩
    | 5, _ => exact ⟨_, by decide, hc 5⟩)
  have hne : w5.heap.size ≠ g := by have := HR5.out.lt; omega
  have HW := Lib.hid (show ∀ z : Nat, ((z : Int) < 2 ∨ (z : Int) = 0) → IntKind.i64.wrap ((i : Int) + (z : Int)) = (i : Int) + (z : Int) ∧ (0 : Int) ≤ (i : Int) + (z : Int) ∧ (i : Int) + (z : Int) ≤ (s.size : Int) from fun z hz => ⟨IntWalk.i64_in _ (by omega), by omega, by omega⟩)
  have HY := Lib.hid (show ∀ y : ByteArray, y.size ≤ 2 → ((9223372036854775807 < min i s.size + y.size) = False) ∧ ∀ a : Nat, ((9223372036854775807 < min i s.size + y.size + (s.size - a)) = False) from fun y hy => ⟨eq_false (by omega), fun a => eq_false (by omega)⟩)
  go_region_held3 (fun _ => True) (trivial) (first
    | (go_at_call 37; go_must (refine (c_of g w5.heap.size 6 A n1 c1 p5 _ HRB.out (by omega) (by omega) hn1 (by omega) (by omega) hne HST.out).mono ?_; rintro r w6 ⟨_, ⟨y, rfl, hy⟩, rfl, hg6, p6, hp6, hp6', hr6⟩; obtain ⟨hy1, hy2⟩ := HY.out y hy))
    | (go_at_call 36; go_must (refine (c_pick g A n1 c1 p6 2 _ hr6 (by omega) (by omega) hn1 (by omega)).mono ?_; rintro r w7 ⟨z, ⟨hz2, hz3⟩, rfl, hg7, p7, hp7, hp7', hr7⟩; obtain ⟨z', rfl⟩ := Int.eq_ofNat_of_zero_le hz2; obtain ⟨hz4, hz5, hz6⟩ := HW.out z' hz3; have hy3 := hy2 (i + z'))))
  go_wp2
  go_ret
  refine ⟨_, ⟨_, rfl, ?_⟩, rfl, below_src HB1.out hg (grown_trans HG5.out (grown_trans (grown_trans (below_grown (below_alloc _) _) (grown_undrew hg6)) hg7))⟩
  rw [ByteArray.size_append, ByteArray.size_append]
  exact Nat.le_trans (Nat.add_le_add (Nat.add_le_add (HE.out _ _) hy) (HE.out _ _)) (by decide)
end Go.Proofs.YtncpnjnmljobgaaDoor
