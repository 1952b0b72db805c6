/-
  Contracts of the reference's sorting.
-/
import Derived.Test.YtbcionecepdkfaaOwnApp
import Derived.Test.YtbcionecepdkfaaList
import Derived.Test.YtbcionecepdkfaaMathC
import Derived.Test.YtbcionecepdkfaaCrit
import Derived.IntWalk
namespace Go.Proofs.Ytbcionecepdkfaa
open Go.RowKit
theorem lt_ways (d e d' e' : Int) (x y : Tk) (h1 : x.due = d) (h2 : x.every = e) (h3 : y.due = d') (h4 : y.every = e') : ((d != d') = false ∧ d = d' ∧ tLt x y = decide (e < e')) ∨ ((d != d') = true ∧ tLt x y = decide (d < d')) := by
  subst h1 h2 h3 h4
  unfold tLt
  by_cases h : x.due = y.due
  · left
    refine ⟨by simp [h], h, ?_⟩
    rw [Bool.eq_iff_iff]
    simp [h]
  · right
    refine ⟨by rw [bne_iff_ne]; exact h, ?_⟩
    rw [Bool.eq_iff_iff]
    simp [h]
set_option maxHeartbeats 400000 in
theorem c_l1Before (l h d e l' h' d' e' : Int) (c c' : Bool) (w : World) : Calls Try.prog 34 #[.agg #[.int .i64 l, .int .i64 h, .int .i64 d, .int .i64 e, .bool c], .agg #[.int .i64 l', .int .i64 h', .int .i64 d', .int .i64 e', .bool c']] w (Ret w (.bool (tLt ⟨l, h, d, e, c⟩ ⟨l', h', d', e', c'⟩))) := by
  rcases lt_ways d e d' e' ⟨l, h, d, e, c⟩ ⟨l', h', d', e', c'⟩ rfl rfl rfl rfl with ⟨h1, rfl, hv⟩ | ⟨h1, hv⟩
  · rw [hv]
    clear hv
    go_enter Try.func34, Try.ntmps34
    go_wp2
    go_ret
    refine ⟨rfl, ?_⟩
    go_grown
  · rw [hv]
    clear hv
    go_enter Try.func34, Try.ntmps34
    go_wp2
    go_ret
    refine ⟨rfl, ?_⟩
    go_grown
theorem keep10 {f : FuncId} {args : Array Value} {W W' : World} {v u0 u1 u2 u3 u4 u5 u6 u7 u8 u9 : Value} {b g o0 o1 o2 o3 o4 o5 o6 o7 o8 o9 : Nat} (h : Calls Try.prog f args W (Ret W v)) (hb : b < W'.heap.size) (hg : g < W'.heap.size)
    (h0 : W'.cell? ⟨b, o0, none⟩ = some u0) (h1 : W'.cell? ⟨b, o1, none⟩ = some u1) (h2 : W'.cell? ⟨b, o2, none⟩ = some u2) (h3 : W'.cell? ⟨b, o3, none⟩ = some u3) (h4 : W'.cell? ⟨b, o4, none⟩ = some u4)
    (h5 : W'.cell? ⟨g, o5, none⟩ = some u5) (h6 : W'.cell? ⟨g, o6, none⟩ = some u6) (h7 : W'.cell? ⟨g, o7, none⟩ = some u7) (h8 : W'.cell? ⟨g, o8, none⟩ = some u8) (h9 : W'.cell? ⟨g, o9, none⟩ = some u9) (hW : W = W'.drew := by rfl) :
    Calls Try.prog f args W fun r w' => Ret W v r w' ∧ w'.cell? ⟨b, o0, none⟩ = some u0 ∧ w'.cell? ⟨b, o1, none⟩ = some u1 ∧ w'.cell? ⟨b, o2, none⟩ = some u2 ∧ w'.cell? ⟨b, o3, none⟩ = some u3 ∧ w'.cell? ⟨b, o4, none⟩ = some u4 ∧
      w'.cell? ⟨g, o5, none⟩ = some u5 ∧ w'.cell? ⟨g, o6, none⟩ = some u6 ∧ w'.cell? ⟨g, o7, none⟩ = some u7 ∧ w'.cell? ⟨g, o8, none⟩ = some u8 ∧ w'.cell? ⟨g, o9, none⟩ = some u9 := by
  subst hW
  exact h.mono fun _ _ hr => ⟨hr, ((bcell hr.2).1 b o0 hb).trans h0, ((bcell hr.2).1 b o1 hb).trans h1, ((bcell hr.2).1 b o2 hb).trans h2, ((bcell hr.2).1 b o3 hb).trans h3, ((bcell hr.2).1 b o4 hb).trans h4,
    ((bcell hr.2).1 g o5 hg).trans h5, ((bcell hr.2).1 g o6 hg).trans h6, ((bcell hr.2).1 g o7 hg).trans h7, ((bcell hr.2).1 g o8 hg).trans h8, ((bcell hr.2).1 g o9 hg).trans h9⟩
set_option maxHeartbeats 2000000 in
theorem c_spec_SortDue (A : Option Addr) (n c : Nat) (ts : List Tk) (w : World) (h : IsTs w A n ts) (hn : n ≤ 140737488351232) :
    Calls Try.prog 11 #[.slice A n c] w (GotTs w 28 (srA ts)) := by
  have HL := Lib.hid h.1
  have H := Lib.hid h
  clear h
  have HB1 := Lib.hid (below_alloc (w := w) (.cells #[] 28))
  have HO1 := Lib.hid (OwnT.empty (e := 28) w (Nat.le_refl _))
  by_cases hn0 : n = 0
  · have e : ts = [] := List.length_eq_zero_iff.1 (by have := HL.out; omega)
    rw [e, show srA [] = [] from rfl]
    subst hn0
    clear e
    go_enter Try.func11, Try.ntmps11
    go_wp2
    refine wp_loop_rounds 1 ?_
    rw [rounds_succ]
    go_wp2
    go_ret
    exact ⟨_, 0, 0, rfl, HB1.out, HO1.out⟩
  cases hv : svB ts
  · rw [srA_no hv]
    have HV := Lib.hid hv
    clear hv
    go_enter Try.func11, Try.ntmps11
    go_wp2
    refine wp_loop_rounds 1 ?_
    rw [rounds_succ]
    go_wp2_with fail
    refine (c_spec_SetValid A n c ts _ (H.out.below HB1.out) hn).mono ?_
    rintro r w1 ⟨rfl, hb1⟩
    rw [HV.out]
    go_wp2
    go_ret
    exact ⟨_, 0, 0, rfl, below2 HB1.out hb1, HO1.out.below hb1⟩
  · rw [srA_yes hv]
    obtain ⟨i0, hi, hz0, hz1, hz2⟩ := info_parts info_Task
    have HI := Lib.hid (And.intro hi (And.intro hz0 (And.intro hz1 hz2)))
    clear hi hz0 hz1 hz2
    have hl5 := svB_len hv
    have hn5 : n ≤ 5 := by have := HL.out; omega
    have HV := Lib.hid hv
    clear hv
    go_enter Try.func11, Try.ntmps11
    go_wp2
    go_loopw [3, 4] (fun u i wr => ∃ (k g c1 : Nat), k ≤ n ∧ i = .int .i64 k ∧ u = .slice (some ⟨g, 0, none⟩) k c1 ∧ Below w.heap.size w wr ∧ OwnT wr w.heap.size 28 (some ⟨g, 0, none⟩) k c1 (srt (ts.take k)) ∧ g < wr.heap.size) (fun _ i _ => n - (intOf i).toNat)
    case atStart => exact ⟨0, _, 0, Nat.zero_le _, rfl, rfl, HB1.out, HO1.out, by simp⟩
    case round =>
      clear HB1 HO1
      obtain ⟨k, g, c1, hk, rfl, rfl, hb, ho, hg⟩ := hrel
      have HB0 := Lib.hid hb
      have HO0 := Lib.hid ho
      clear hb ho
      by_cases hlt : k < n
      · go_wp2_with fail
        refine (c_spec_SetValid A n c ts _ (H.out.below HB0.out) hn).mono ?_
        rintro r wr1 ⟨rfl, hbr⟩
        have HB := Lib.hid (below2 HB0.out hbr)
        have HO := Lib.hid (HO0.out.below hbr)
        have hg1 : g < wr1.heap.size := Nat.lt_of_lt_of_le hg hbr.size
        have hkc := HO.out.cap
        clear hbr HB0 HO0 hg
        obtain ⟨t, ht⟩ : ∃ t, ts[k]? = some t := at_of (by have := HL.out; omega)
        have HT := Lib.hid ht
        clear ht
        rw [HV.out]
        go_wp2
        go_loopw [5] (fun u wr => ∃ j : Nat, j ≤ k ∧ u = .int .i64 j ∧ (∀ (i : Nat) (y : Tk), j ≤ i → (srt (ts.take k))[i]? = some y → tLt t y = true) ∧ Below wr1.heap.size wr1 wr) (fun u _ => (intOf u).toNat)
        case atStart => exact ⟨k, Nat.le_refl _, rfl, fun i y hi hy => absurd (lt_of_at hy) (by have := HO.out.1; omega), Below.refl _ _⟩
        case round =>
          obtain ⟨j, hj, rfl, hall, hbj⟩ := hrel
          have HJ := Lib.hid hbj
          have HA := Lib.hid hall
          have hO := HO.out.below hbj
          have hI := H.out.below (below2 HB.out hbj)
          have hgj : g < wr.heap.size := Nat.lt_of_lt_of_le hg1 hbj.size
          have HOj := Lib.hid hO
          have HIj := Lib.hid hI
          have HBj := Lib.hid (below2 HB.out hbj)
          obtain ⟨b, o, rfl, hbb, h0, h1, h2, h3, h4⟩ := hI.2 k t HT.out
          clear hbj hall hO hI
          by_cases hj0 : j = 0
          · subst hj0
            have hdec : decide ((0 : Int) < 0) = false := by decide
            have HINS := Lib.hid (insT_at (x := t) (l := srt (ts.take k)) (j := 0) (Nat.zero_le _) HA.out (fun y hy => absurd hy (by omega)))
            clear h0 h1 h2 h3 h4
            go_wp2_with fail
            go_quiet (fail)
            have HBx := Lib.hid (below_drewN HBj.out nq)
            have HOx := Lib.hid (HOj.out.below (below_drewN (Below.refl _ _) nq))
            have HIx := Lib.hid (HIj.out.below (below_drewN (Below.refl _ _) nq))
            have hgx : g < (wr.drewN nq).heap.size := hgj
            have hbb' : b < (wr.drewN nq).heap.size := hbb
            generalize wr.drewN nq = wx at *
            have hB2 : w.heap.size ≤ wx.heap.size := HBx.out.size
            have HE := Lib.hid (OwnT.empty (e := 28) wx (Nat.le_refl _))
            have HOe := Lib.hid (HOx.out.below (below_alloc (.cells #[] 28)))
            have HIe := Lib.hid (HIx.out.below (below_alloc (.cells #[] 28)))
            have HBe := Lib.hid (below2 HBx.out (below_alloc (.cells #[] 28)))
            have hbx : b < wx.heap.size := hbb'
            by_cases hjc : 0 = c1
            · have HZ := Lib.hid (show (srt (ts.take k)).drop 0 = [] from List.drop_eq_nil_of_le (by have := HOx.out.1; omega))
              subst hjc
              go_wp2_with (first | (at_builtin; refine wpList_append_tasks rfl (.tmp 36) (.tmp 39) 23 rfl i0 Try.underlying23 HI.out.1 HI.out.2.1 HI.out.2.2.1 HI.out.2.2.2 rfl HE.out g 0 0 0 ((srt (ts.take k)).take 0) (by first | rfl | simp) (by omega) (HOe.out.isTs.take (by omega)) (by simp) 0 (by omega) ?_; intro A3 c3 w3 ho3 hg3; simp only [List.nil_append] at ho3; have hi3 := HIe.out.beside hbx HE.out hg3; have hO3 := HOe.out.beside hgx HE.out hg3; have hB3 := own_below HBe.out (HE.out.less hB2) hg3 HBe.out.size; have hz3 := hg3.size; simp at hz3; obtain ⟨b', o', e', hbb3, i0', i1', i2', i3', i4'⟩ := hi3.2 k t HT.out; injection e' with e'; injection e' with e1 e2; subst e1 e2; have HI3 := Lib.hid hi3; have HO3 := Lib.hid ho3; have HOo3 := Lib.hid hO3; have HB3 := Lib.hid hB3; clear hi3 ho3 hO3 hB3 hg3) | (at_builtin; refine wpList_append_task rfl (.tmp 41) (.tmp 46) 23 rfl i0 Try.underlying23 HI.out.1 HI.out.2.1 HI.out.2.2.1 HI.out.2.2.2 rfl (HO3.out.below (below_alloc _)) (by omega) _ t rfl (Tk.news w3 28 t) (by simp; omega) ?_; intro A4 c4 w4 ho4 hg4; have hb4 := below_alloc (w := w3) (.cells #[.int .i64 t.low, .int .i64 t.high, .int .i64 t.due, .int .i64 t.every, .bool t.crit] 28); have HOo4 := Lib.hid ((HOo3.out.below hb4).beside hgx (HO3.out.below hb4) hg4); have HB4 := Lib.hid (own_below (below2 HB3.out hb4) ((HO3.out.below hb4).less hB2) hg4 (below2 HB3.out hb4).size); have hz4 := hg4.size; simp at hz4; have HO4 := Lib.hid ho4; clear ho4 hg4 hb4 i0' i1' i2' i3' i4') | (at_builtin; refine wpList_append_tasks rfl (.tmp 48) (.tmp 51) 23 rfl i0 Try.underlying23 HI.out.1 HI.out.2.1 HI.out.2.2.1 HI.out.2.2.2 rfl HO4.out g 0 _ _ ((srt (ts.take k)).drop 0) (by first | rfl | simp) (by omega) ⟨by rw [HZ.out]; simp; try omega, fun q t hq => by rw [HZ.out] at hq; simp at hq⟩ (by omega) (k + 1) (by omega) ?_; intro A5 c5 w5 ho5 hg5; obtain ⟨g5, rfl, hg50, hg51⟩ := ho5.form (by omega); have HO5 := Lib.hid (ho5.less hB2); have HB5 := Lib.hid (own_below HB4.out (HO4.out.less hB2) hg5 HB4.out.size); clear ho5 hg5))
              go_roundw
              case rel =>
                refine ⟨k + 1, g5, c5, by omega, by go_num, rfl, HB5.out, ?_, hg51⟩
                rw [srt_snoc HT.out, HINS.out]
                have := HO5.out
                rwa [List.append_assoc, List.singleton_append] at this
              case measure => simp [intOf] <;> omega
            · have hjc' : (0 : Int) < (c1 : Int) := by omega
              go_wp2_with (first | (at_builtin; refine wpList_append_tasks rfl (.tmp 36) (.tmp 39) 23 rfl i0 Try.underlying23 HI.out.1 HI.out.2.1 HI.out.2.2.1 HI.out.2.2.2 rfl HE.out g 0 0 c1 ((srt (ts.take k)).take 0) (by first | rfl | simp) (by omega) (HOe.out.isTs.take (by omega)) (by simp) 0 (by omega) ?_; intro A3 c3 w3 ho3 hg3; simp only [List.nil_append] at ho3; have hi3 := HIe.out.beside hbx HE.out hg3; have hO3 := HOe.out.beside hgx HE.out hg3; have hB3 := own_below HBe.out (HE.out.less hB2) hg3 HBe.out.size; have hz3 := hg3.size; simp at hz3; obtain ⟨b', o', e', hbb3, i0', i1', i2', i3', i4'⟩ := hi3.2 k t HT.out; injection e' with e'; injection e' with e1 e2; subst e1 e2; have HI3 := Lib.hid hi3; have HO3 := Lib.hid ho3; have HOo3 := Lib.hid hO3; have HB3 := Lib.hid hB3; clear hi3 ho3 hO3 hB3 hg3) | (at_builtin; refine wpList_append_task rfl (.tmp 41) (.tmp 46) 23 rfl i0 Try.underlying23 HI.out.1 HI.out.2.1 HI.out.2.2.1 HI.out.2.2.2 rfl (HO3.out.below (below_alloc _)) (by omega) _ t rfl (Tk.news w3 28 t) (by simp; omega) ?_; intro A4 c4 w4 ho4 hg4; have hb4 := below_alloc (w := w3) (.cells #[.int .i64 t.low, .int .i64 t.high, .int .i64 t.due, .int .i64 t.every, .bool t.crit] 28); have HOo4 := Lib.hid ((HOo3.out.below hb4).beside hgx (HO3.out.below hb4) hg4); have HB4 := Lib.hid (own_below (below2 HB3.out hb4) ((HO3.out.below hb4).less hB2) hg4 (below2 HB3.out hb4).size); have hz4 := hg4.size; simp at hz4; have HO4 := Lib.hid ho4; clear ho4 hg4 hb4 i0' i1' i2' i3' i4') | (at_builtin; refine wpList_append_tasks rfl (.tmp 48) (.tmp 51) 23 rfl i0 Try.underlying23 HI.out.1 HI.out.2.1 HI.out.2.2.1 HI.out.2.2.2 rfl HO4.out g (0 * 5) _ _ ((srt (ts.take k)).drop 0) (by first | rfl | simp) (by omega) (by have := HOo4.out.isTs.drop (k := 0) (by omega); simpa using this) (by omega) (k + 1) (by omega) ?_; intro A5 c5 w5 ho5 hg5; obtain ⟨g5, rfl, hg50, hg51⟩ := ho5.form (by omega); have HO5 := Lib.hid (ho5.less hB2); have HB5 := Lib.hid (own_below HB4.out (HO4.out.less hB2) hg5 HB4.out.size); clear ho5 hg5))
              go_roundw
              case rel =>
                refine ⟨k + 1, g5, c5, by omega, by go_num, rfl, HB5.out, ?_, hg51⟩
                rw [srt_snoc HT.out, HINS.out]
                have := HO5.out
                rwa [List.append_assoc, List.singleton_append] at this
              case measure => simp [intOf] <;> omega
          · obtain ⟨m, rfl⟩ : ∃ m, j = m + 1 := ⟨j - 1, by omega⟩
            obtain ⟨y, hy⟩ : ∃ y, (srt (ts.take k))[m]? = some y := at_of (by have := HOj.out.1; omega)
            obtain ⟨y0, y1, y2, y3, y4⟩ := HOj.out.at_ hy
            have hdec : decide ((0 : Int) < (m : Int) + 1) = true := decide_eq_true (by omega)
            have hw2 : IntKind.i64.wrap (m : Int) = (m : Int) := IntWalk.i64_in _ (by omega)
            have hw1 : IntKind.i64.wrap ((m : Int) + 1 - 1) = (m : Int) := by rw [show (m : Int) + 1 - 1 = m by omega]; exact hw2
            have hm0 : (0 : Int) ≤ (m : Int) := by omega
            have hm1 : (m : Int) < (k : Int) := by omega
            have hk0 : (0 : Int) ≤ (k : Int) := by omega
            have hk1 : (k : Int) < (n : Int) := by omega
            have HY := Lib.hid hy
            clear hy
            go_wp2_with fail
            go_region_held3 (fun w' => w'.cell? ⟨b, o + k * 5, none⟩ = some (.int .i64 t.low) ∧ w'.cell? ⟨b, o + k * 5 + 1, none⟩ = some (.int .i64 t.high) ∧ w'.cell? ⟨b, o + k * 5 + 2, none⟩ = some (.int .i64 t.due) ∧ w'.cell? ⟨b, o + k * 5 + 3, none⟩ = some (.int .i64 t.every) ∧ w'.cell? ⟨b, o + k * 5 + 4, none⟩ = some (.bool t.crit) ∧
              w'.cell? ⟨g, m * 5, none⟩ = some (.int .i64 y.low) ∧ w'.cell? ⟨g, m * 5 + 1, none⟩ = some (.int .i64 y.high) ∧ w'.cell? ⟨g, m * 5 + 2, none⟩ = some (.int .i64 y.due) ∧ w'.cell? ⟨g, m * 5 + 3, none⟩ = some (.int .i64 y.every) ∧ w'.cell? ⟨g, m * 5 + 4, none⟩ = some (.bool y.crit)) (go_keep) (first
              | (go_at_call 34; go_must (refine Calls.mono (keep10 (c_l1Before _ _ _ _ _ _ _ _ _ _ _) hbb hgj h0 h1 h2 h3 h4 y0 y1 y2 y3 y4) ?_; rintro r w2 ⟨⟨rfl, hb2⟩, x0, x1, x2, x3, x4, x5, x6, x7, x8, x9⟩)))
            have hbw2 : b < w2.heap.size := Nat.lt_of_lt_of_le hbb (below_undrew hb2).size
            have hgx : g < w2.heap.size := Nat.lt_of_lt_of_le hgj (below_undrew hb2).size
            have HBx := Lib.hid (below2 HBj.out (below_undrew hb2))
            have HJx := Lib.hid (below2 HJ.out (below_undrew hb2))
            have HOx := Lib.hid (HOj.out.below (below_undrew hb2))
            have HIx := Lib.hid (HIj.out.below (below_undrew hb2))
            clear hb2 h0 h1 h2 h3 h4 y0 y1 y2 y3 y4 x0 x1 x2 x3 x4 x5 x6 x7 x8 x9
            cases hb : tLt ⟨t.low, t.high, t.due, t.every, t.crit⟩ ⟨y.low, y.high, y.due, y.every, y.crit⟩
            · have HINS := Lib.hid (insT_at (x := t) (l := srt (ts.take k)) (j := m + 1) (by have := HOx.out.1; omega) HA.out (fun y' _ hy' => by
                rw [show m + 1 - 1 = m by omega, HY.out] at hy'
                injection hy' with hy'
                exact hy' ▸ hb))
              clear hb
              have hB2 : w.heap.size ≤ w2.heap.size := HBx.out.size
              have HE := Lib.hid (OwnT.empty (e := 28) w2 (Nat.le_refl _))
              have HOe := Lib.hid (HOx.out.below (below_alloc (.cells #[] 28)))
              have HIe := Lib.hid (HIx.out.below (below_alloc (.cells #[] 28)))
              have HBe := Lib.hid (below2 HBx.out (below_alloc (.cells #[] 28)))
              have hbx : b < w2.heap.size := hbw2
              by_cases hjc : (m + 1) = c1
              · have HZ := Lib.hid (show (srt (ts.take k)).drop (m + 1) = [] from List.drop_eq_nil_of_le (by have := HOx.out.1; omega))
                subst hjc
                go_wp2_with (first | (at_builtin; refine wpList_append_tasks rfl (.tmp 36) (.tmp 39) 23 rfl i0 Try.underlying23 HI.out.1 HI.out.2.1 HI.out.2.2.1 HI.out.2.2.2 rfl HE.out g 0 (m + 1) (m + 1) ((srt (ts.take k)).take (m + 1)) (by first | rfl | simp) (by omega) (HOe.out.isTs.take (by omega)) (by simp) (m + 1) (by omega) ?_; intro A3 c3 w3 ho3 hg3; simp only [List.nil_append] at ho3; have hi3 := HIe.out.beside hbx HE.out hg3; have hO3 := HOe.out.beside hgx HE.out hg3; have hB3 := own_below HBe.out (HE.out.less hB2) hg3 HBe.out.size; have hz3 := hg3.size; simp at hz3; obtain ⟨b', o', e', hbb3, i0', i1', i2', i3', i4'⟩ := hi3.2 k t HT.out; injection e' with e'; injection e' with e1 e2; subst e1 e2; have HI3 := Lib.hid hi3; have HO3 := Lib.hid ho3; have HOo3 := Lib.hid hO3; have HB3 := Lib.hid hB3; clear hi3 ho3 hO3 hB3 hg3) | (at_builtin; refine wpList_append_task rfl (.tmp 41) (.tmp 46) 23 rfl i0 Try.underlying23 HI.out.1 HI.out.2.1 HI.out.2.2.1 HI.out.2.2.2 rfl (HO3.out.below (below_alloc _)) (by omega) _ t rfl (Tk.news w3 28 t) (by simp; omega) ?_; intro A4 c4 w4 ho4 hg4; have hb4 := below_alloc (w := w3) (.cells #[.int .i64 t.low, .int .i64 t.high, .int .i64 t.due, .int .i64 t.every, .bool t.crit] 28); have HOo4 := Lib.hid ((HOo3.out.below hb4).beside hgx (HO3.out.below hb4) hg4); have HB4 := Lib.hid (own_below (below2 HB3.out hb4) ((HO3.out.below hb4).less hB2) hg4 (below2 HB3.out hb4).size); have hz4 := hg4.size; simp at hz4; have HO4 := Lib.hid ho4; clear ho4 hg4 hb4 i0' i1' i2' i3' i4') | (at_builtin; refine wpList_append_tasks rfl (.tmp 48) (.tmp 51) 23 rfl i0 Try.underlying23 HI.out.1 HI.out.2.1 HI.out.2.2.1 HI.out.2.2.2 rfl HO4.out g 0 _ _ ((srt (ts.take k)).drop (m + 1)) (by first | rfl | simp) (by omega) ⟨by rw [HZ.out]; simp; try omega, fun q t hq => by rw [HZ.out] at hq; simp at hq⟩ (by omega) (k + 1) (by omega) ?_; intro A5 c5 w5 ho5 hg5; obtain ⟨g5, rfl, hg50, hg51⟩ := ho5.form (by omega); have HO5 := Lib.hid (ho5.less hB2); have HB5 := Lib.hid (own_below HB4.out (HO4.out.less hB2) hg5 HB4.out.size); clear ho5 hg5))
                go_roundw
                case rel =>
                  refine ⟨k + 1, g5, c5, by omega, by go_num, rfl, HB5.out, ?_, hg51⟩
                  rw [srt_snoc HT.out, HINS.out]
                  have := HO5.out
                  rwa [List.append_assoc, List.singleton_append] at this
                case measure => simp [intOf] <;> omega
              · have hjc' : ((((m + 1) : Nat) : Int) : Int) < (c1 : Int) := by omega
                go_wp2_with (first | (at_builtin; refine wpList_append_tasks rfl (.tmp 36) (.tmp 39) 23 rfl i0 Try.underlying23 HI.out.1 HI.out.2.1 HI.out.2.2.1 HI.out.2.2.2 rfl HE.out g 0 (m + 1) c1 ((srt (ts.take k)).take (m + 1)) (by first | rfl | simp) (by omega) (HOe.out.isTs.take (by omega)) (by simp) (m + 1) (by omega) ?_; intro A3 c3 w3 ho3 hg3; simp only [List.nil_append] at ho3; have hi3 := HIe.out.beside hbx HE.out hg3; have hO3 := HOe.out.beside hgx HE.out hg3; have hB3 := own_below HBe.out (HE.out.less hB2) hg3 HBe.out.size; have hz3 := hg3.size; simp at hz3; obtain ⟨b', o', e', hbb3, i0', i1', i2', i3', i4'⟩ := hi3.2 k t HT.out; injection e' with e'; injection e' with e1 e2; subst e1 e2; have HI3 := Lib.hid hi3; have HO3 := Lib.hid ho3; have HOo3 := Lib.hid hO3; have HB3 := Lib.hid hB3; clear hi3 ho3 hO3 hB3 hg3) | (at_builtin; refine wpList_append_task rfl (.tmp 41) (.tmp 46) 23 rfl i0 Try.underlying23 HI.out.1 HI.out.2.1 HI.out.2.2.1 HI.out.2.2.2 rfl (HO3.out.below (below_alloc _)) (by omega) _ t rfl (Tk.news w3 28 t) (by simp; omega) ?_; intro A4 c4 w4 ho4 hg4; have hb4 := below_alloc (w := w3) (.cells #[.int .i64 t.low, .int .i64 t.high, .int .i64 t.due, .int .i64 t.every, .bool t.crit] 28); have HOo4 := Lib.hid ((HOo3.out.below hb4).beside hgx (HO3.out.below hb4) hg4); have HB4 := Lib.hid (own_below (below2 HB3.out hb4) ((HO3.out.below hb4).less hB2) hg4 (below2 HB3.out hb4).size); have hz4 := hg4.size; simp at hz4; have HO4 := Lib.hid ho4; clear ho4 hg4 hb4 i0' i1' i2' i3' i4') | (at_builtin; refine wpList_append_tasks rfl (.tmp 48) (.tmp 51) 23 rfl i0 Try.underlying23 HI.out.1 HI.out.2.1 HI.out.2.2.1 HI.out.2.2.2 rfl HO4.out g (((m + 1)) * 5) (k - (m + 1)) (c1 - (m + 1)) ((srt (ts.take k)).drop (m + 1)) (by first | rfl | simp) (by omega) (by have := HOo4.out.isTs.drop (k := (m + 1)) (by omega); simpa using this) (by omega) (k + 1) (by omega) ?_; intro A5 c5 w5 ho5 hg5; obtain ⟨g5, rfl, hg50, hg51⟩ := ho5.form (by omega); have HO5 := Lib.hid (ho5.less hB2); have HB5 := Lib.hid (own_below HB4.out (HO4.out.less hB2) hg5 HB4.out.size); clear ho5 hg5))
                go_roundw
                case rel =>
                  refine ⟨k + 1, g5, c5, by omega, by go_num, rfl, HB5.out, ?_, hg51⟩
                  rw [srt_snoc HT.out, HINS.out]
                  have := HO5.out
                  rwa [List.append_assoc, List.singleton_append] at this
                case measure => simp [intOf] <;> omega
            · have HT2 := Lib.hid (show tLt t y = true from hb)
              clear hb
              go_wp2
              go_roundw
              case rel => exact ⟨m, by omega, rfl, fun i z hi hz => by
                  by_cases e : i = m
                  · subst e
                    rw [HY.out] at hz
                    injection hz with hz
                    exact hz ▸ HT2.out
                  · exact HA.out i z (by omega) hz, HJx.out⟩
              case measure => simp [intOf] <;> omega
      · go_wp2
        go_ret
        refine ⟨_, _, _, rfl, HB0.out, ?_⟩
        have := HO0.out
        rw [List.take_of_length_le (by have := HL.out; omega)] at this
        exact this
end Go.Proofs.Ytbcionecepdkfaa
