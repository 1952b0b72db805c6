/-
  The reference's parser of sets.
-/
import Derived.Test.YtncpnjnmljobgaaDoorPSetI
namespace Go.Proofs.YtncpnjnmljobgaaDoor
set_option maxRecDepth 100000
open Go.RowKit
theorem StrB.of_own {w : World} {B n c g : Nat} {xs : List ByteArray} (h : OwnS w B 9 (some ⟨g, 0, none⟩) n c xs) : StrB w g xs := by
  have hl := h.1
  rcases h.2.2 with ⟨hv, _⟩ | ⟨g', cap, cur, hv, _, hh, hnc, _, hz, ht⟩
  · cases hv
  · injection hv with h1 _ _
    injection h1 with h1
    injection h1 with h1
    subst h1
    refine ⟨cur, hh, fun k x hx => ?_⟩
    have hk := (List.getElem?_eq_some_iff.1 hx).1
    have e : (cur.toList.take (n * 1))[k]? = some (.string x) := by rw [ht, List.getElem?_map, hx]; rfl
    rw [List.getElem?_take, if_pos (by omega), Array.getElem?_toList] at e
    exact e
set_option maxHeartbeats 8000000 in
theorem c_spec_ParseSet (s : ByteArray) (w : World) (hs : s.size ≤ 1048576) : Calls Tryd.prog 16 #[.string s] w (GotPS w s.data.toList) := by
  have HZ := Lib.hid hs
  have HB0 := Lib.hid (below_alloc (w := w) (.cells #[] 24))
  have HO0 := Lib.hid (OwnT.empty (e := 24) w (Nat.le_refl _))
  by_cases h0 : s.toList = []
  · have h1 : s.toList.isEmpty = true := by rw [h0]; rfl
    have HN := Lib.hid (show s.data.toList = [] from (ByteArray.toList_eq s).symm.trans h0)
    clear h0
    go_enter Tryd.func16, Tryd.ntmps16
    go_wp2
    go_ret2
    exact ⟨_, 0, 0, [], true, rfl, HB0.out, HO0.out, by omega, by rw [HN.out]; exact isPS_nil⟩
  · have h1 : s.toList.isEmpty = false := by cases hq : s.toList with | nil => exact absurd hq h0 | cons _ _ => rfl
    have HN := Lib.hid (show s.data.toList ≠ [] from fun e => h0 ((ByteArray.toList_eq s).trans e))
    obtain ⟨i0, hi, hz0, hz1, hz2⟩ := info_parts info_Task
    have HI := Lib.hid (And.intro hi (And.intro hz0 (And.intro hz1 hz2)))
    clear h0 hi hz0 hz1 hz2
    go_enter Tryd.func16, Tryd.ntmps16
    go_wp2_with fail
    refine (c_l11Cut s 59 59 _ rfl hs).mono ?_
    rintro r w1 ⟨A0, n, c0, rfl, hb1, hX, hnb⟩
    have hn : n = (cutL 59 s.data.toList).length := by have := hX.1; rw [List.length_map] at this; exact this.symm
    have hn1 : 1 ≤ n := by rw [hn]; exact cutL_len
    rcases hX.form' with ⟨_, h0, _⟩ | ⟨g, rfl, hgl, hgB, hnc⟩
    · omega
    have HB1 := Lib.hid (below2 HB0.out hb1)
    have HO1 := Lib.hid (HO0.out.below hb1)
    have HX1 := Lib.hid (StrB.of_own hX)
    have HL := Lib.hid hn
    clear hb1 hX hn HB0 HO0 hs hgl hgB
    go_wp2
    go_loopw [4, 6] (fun u i wr => ∃ (k : Nat) (A1 : Option Addr) (c1 : Nat) (ts : List Tk), k ≤ n ∧ k ≤ 6 ∧ i = .int .i64 k ∧ u = .slice A1 k c1 ∧ Hid (Below w.heap.size w wr) ∧ Hid (OwnT wr w.heap.size 24 A1 k c1 ts) ∧ Hid (StrB wr g ((cutL 59 s.data.toList).map bs)) ∧ Hid (Held preS (cutL 59 s.data.toList) ts)) (fun _ i _ => n - (intOf i).toNat)
    case atStart => exact ⟨0, _, 0, [], Nat.zero_le _, Nat.zero_le _, rfl, rfl, HB1, HO1, HX1, Lib.hid (held_nil _ _)⟩
    case round =>
      clear HB1 HO1 HX1
      obtain ⟨k, A1, c1, ts, hk, hk5, rfl, rfl, hb, ho, hX, hH⟩ := hrel
      have more : ∀ (x y : List UInt8), (cutL 59 s.data.toList)[k]? = some x → x = preS k ++ y → IsP y Tk.zero false → IsPS s.data.toList [] false := fun x y hx he hp => noS HN.out hx fun u hu e => by
        rcases hp with ⟨h, _⟩ | ⟨_, _, h⟩
        · cases h
        · exact h u hu (List.append_cancel_left (he.symm.trans e)).symm
      have HM := Lib.hid more
      clear more
      by_cases hlt : k < n ∧ k ≤ 5
      · obtain ⟨hlt, hle⟩ := hlt
        obtain ⟨x, hx⟩ : ∃ x, (cutL 59 s.data.toList)[k]? = some x := ⟨_, List.getElem?_eq_getElem (by have := HL.out; omega)⟩
        have hzx := piece_small HZ.out hx
        have y0 := hX.out.at_ (k := k) (x := bs x) (by rw [List.getElem?_map, hx]; rfl)
        have HX := Lib.hid hx
        clear hx
        by_cases hk0 : k = 0
        · subst hk0
          go_wp2_with fail
          refine (c_spec_ParseTask (bs x) _ hzx).mono ?_
          rintro r w2 ⟨⟨tl, th, td, te, tc⟩, b, rfl, hb2, hp⟩
          rw [bsD] at hp
          have HP := Lib.hid hp
          have HE := Lib.hid (show x = preS 0 ++ x from rfl)
          have HB2 := Lib.hid (below2 hb.out hb2)
          have HO2 := Lib.hid (ho.out.below hb2)
          have HX2 := Lib.hid (hX.out.below hb2)
          clear hp hb2 y0 hb ho hX hzx
          cases b
          · have HZ2 := Lib.hid (show (⟨tl, th, td, te, tc⟩ : Tk) = Tk.zero from by
              rcases HP.out with ⟨h, _⟩ | ⟨_, h, _⟩
              · cases h
              · exact h)
            go_wp2
            go_ret2
            exact ⟨_, 0, 0, [], false, rfl, below2 HB2.out (below2 (below_alloc _) (below_alloc _)), by
    have h := (OwnT.empty (e := 24) (w2.alloc (.cells #[.int .i64 tl, .int .i64 th, .int .i64 td, .int .i64 te, .bool tc] 24)) (Nat.le_refl _)).less (below2 HB2.out (below_alloc _)).size
    rw [World.size_alloc] at h
    exact h, by omega, HM.out _ _ HX.out HE.out (by have := HP.out; rw [HZ2.out] at this; exact this)⟩
          · have hbb2 := below2 (below_alloc (w := w2) (.cells #[.int .i64 tl, .int .i64 th, .int .i64 td, .int .i64 te, .bool tc] 24)) (below_alloc (.cells #[.int .i64 tl, .int .i64 th, .int .i64 td, .int .i64 te, .bool tc] 24))
            have HOA := Lib.hid (HO2.out.below hbb2)
            have HBA := Lib.hid (below2 HB2.out hbb2)
            have HXA := Lib.hid (HX2.out.below hbb2)
            have HNW := Lib.hid (Tk.news (w2.alloc (.cells #[.int .i64 tl, .int .i64 th, .int .i64 td, .int .i64 te, .bool tc] 24)) 24 ⟨tl, th, td, te, tc⟩)
            clear hbb2
            go_wp2_with (at_builtin; refine wpList_append_task rfl _ _ 32 rfl i0 Tryd.underlying32 HI.out.1 HI.out.2.1 HI.out.2.2.1 HI.out.2.2.2 rfl HOA.out (by omega) _ ⟨tl, th, td, te, tc⟩ rfl (by simpa using HNW.out) (HBA.out.size) ?_; intro A2 c2 w3 ho3 hg3; have HO3 := Lib.hid ho3; have HG3 := Lib.hid hg3; clear ho3 hg3)
            go_roundw
            case rel =>
              refine ⟨0 + 1, A2, c2, ts ++ [⟨tl, th, td, te, tc⟩], by omega, by omega, by go_num, rfl, Lib.hid (own_below HBA.out HOA.out HG3.out HBA.out.size), HO3, Lib.hid (HXA.out.grown HOA.out HG3.out), Lib.hid ?_⟩
              rcases HP.out with ⟨_, h1, h2⟩ | ⟨h, _⟩
              · refine held_snoc hH.out h1 ?_
                rw [HO2.out.1, HX.out, h2]
                exact congrArg some HE.out
              · cases h
            case measure => simp [intOf]; omega
        · have hk1 : (0 : Int) < (k : Int) := by omega
          cases x with
          | nil =>
            have e1 : (bs []).toList.isEmpty = true := by rw [bsL]; rfl
            go_wp2
            go_ret2
            refine ⟨_, 0, 0, [], false, rfl, below2 hb.out (below_alloc _), (OwnT.empty _ (Nat.le_refl _)).less hb.out.size, by omega, noS HN.out HX.out fun u hu e => ?_⟩
            rw [show preS k = [32] from if_neg hk0] at e
            cases e
          | cons q y =>
            have e1 : (bs (q :: y)).toList.isEmpty = false := by rw [bsL]; rfl
            have hzq : (bs (q :: y)).size = y.length + 1 := by rw [bs_size]; rfl
            have hq0 : 0 < (bs (q :: y)).size := by omega
            have hq1 : (1 : Int) ≤ ((bs (q :: y)).size : Int) := by omega
            by_cases hq : q = 32
            · have hqe : ((((bs (q :: y))[0]'hq0).toNat : Int) != 32) = false := by show ((q.toNat : Int) != 32) = false; rw [hq]; decide
              have hzy : (bs y).size ≤ 1048576 := by rw [bs_size]; omega
              have HXE := Lib.hid (show (bs (q :: y)).extract 1 (y.length + 1) = bs y from by
                rw [extract_bs (bsL (q :: y)), show y.length + 1 = (q :: y).length from rfl, List.take_length]; rfl)
              have HE := Lib.hid (show q :: y = preS k ++ y from by rw [show preS k = [32] from if_neg hk0, hq]; rfl)
              clear hq
              go_wp2_with fail
              rw [HXE.out]
              refine (c_spec_ParseTask (bs y) _ hzy).mono ?_
              rintro r w2 ⟨⟨tl, th, td, te, tc⟩, b, rfl, hb2, hp⟩
              rw [bsD] at hp
              have HP := Lib.hid hp
              have HB2 := Lib.hid (below2 hb.out hb2)
              have HO2 := Lib.hid (ho.out.below hb2)
              have HX2 := Lib.hid (hX.out.below hb2)
              clear hp hb2 y0 hb ho hX hzx
              cases b
              · have HZ2 := Lib.hid (show (⟨tl, th, td, te, tc⟩ : Tk) = Tk.zero from by
                  rcases HP.out with ⟨h, _⟩ | ⟨_, h, _⟩
                  · cases h
                  · exact h)
                go_wp2
                go_ret2
                exact ⟨_, 0, 0, [], false, rfl, below2 HB2.out (below2 (below_alloc _) (below_alloc _)), by
    have h := (OwnT.empty (e := 24) (w2.alloc (.cells #[.int .i64 tl, .int .i64 th, .int .i64 td, .int .i64 te, .bool tc] 24)) (Nat.le_refl _)).less (below2 HB2.out (below_alloc _)).size
    rw [World.size_alloc] at h
    exact h, by omega, HM.out _ _ HX.out HE.out (by have := HP.out; rw [HZ2.out] at this; exact this)⟩
              · have hbb2 := below2 (below_alloc (w := w2) (.cells #[.int .i64 tl, .int .i64 th, .int .i64 td, .int .i64 te, .bool tc] 24)) (below_alloc (.cells #[.int .i64 tl, .int .i64 th, .int .i64 td, .int .i64 te, .bool tc] 24))
                have HOA := Lib.hid (HO2.out.below hbb2)
                have HBA := Lib.hid (below2 HB2.out hbb2)
                have HXA := Lib.hid (HX2.out.below hbb2)
                have HNW := Lib.hid (Tk.news (w2.alloc (.cells #[.int .i64 tl, .int .i64 th, .int .i64 td, .int .i64 te, .bool tc] 24)) 24 ⟨tl, th, td, te, tc⟩)
                clear hbb2
                go_wp2_with (at_builtin; refine wpList_append_task rfl _ _ 32 rfl i0 Tryd.underlying32 HI.out.1 HI.out.2.1 HI.out.2.2.1 HI.out.2.2.2 rfl HOA.out (by omega) _ ⟨tl, th, td, te, tc⟩ rfl (by simpa using HNW.out) (HBA.out.size) ?_; intro A2 c2 w3 ho3 hg3; have HO3 := Lib.hid ho3; have HG3 := Lib.hid hg3; clear ho3 hg3)
                go_roundw
                case rel =>
                  refine ⟨k + 1, A2, c2, ts ++ [⟨tl, th, td, te, tc⟩], by omega, by omega, by go_num, rfl, Lib.hid (own_below HBA.out HOA.out HG3.out HBA.out.size), HO3, Lib.hid (HXA.out.grown HOA.out HG3.out), Lib.hid ?_⟩
                  rcases HP.out with ⟨_, h1, h2⟩ | ⟨h, _⟩
                  · refine held_snoc hH.out h1 ?_
                    rw [HO2.out.1, HX.out, h2]
                    exact congrArg some HE.out
                  · cases h
                case measure => simp [intOf]; omega
            · have hqe : ((((bs (q :: y))[0]'hq0).toNat : Int) != 32) = true := by
                show ((q.toNat : Int) != 32) = true
                rw [bne_iff_ne]
                intro e
                exact hq (UInt8.toNat_inj.1 (by show q.toNat = 32; omega))
              go_wp2
              go_ret2
              refine ⟨_, 0, 0, [], false, rfl, below2 hb.out (below_alloc _), (OwnT.empty _ (Nat.le_refl _)).less hb.out.size, by omega, noS HN.out HX.out fun u hu e => ?_⟩
              rw [show preS k = [32] from if_neg hk0] at e
              injection e with e _
              exact hq e
      · by_cases h6 : 5 < n
        · have h6' : (5 : Int) < (n : Int) := by omega
          have hstop : ¬ ((k : Int) < (n : Int) ∧ (k : Int) ≤ 5) := by omega
          have hk6 : k = 6 ∨ (k = n ∧ k ≤ 5) := by omega
          rcases hk6 with rfl | ⟨rfl, _⟩
          · clear hlt hstop
            by_cases hn6 : n = 6
            · subst hn6
              go_wp2
              go_ret2
              exact ⟨_, 0, 0, [], false, rfl, below2 hb.out (below_alloc _), (OwnT.empty _ (Nat.le_refl _)).less hb.out.size, by omega, longS HN.out (by have := HL.out; omega)⟩
            · have hn7 : (6 : Int) < (n : Int) := by omega
              go_wp2
              go_ret2
              exact ⟨_, 0, 0, [], false, rfl, below2 hb.out (below_alloc _), (OwnT.empty _ (Nat.le_refl _)).less hb.out.size, by omega, longS HN.out (by have := HL.out; omega)⟩
          · omega
        · obtain rfl : k = n := by omega
          have h6' : ¬ (5 : Int) < (k : Int) := by omega
          clear hlt
          go_wp2
          go_ret2
          exact ⟨_, _, _, ts, true, rfl, hb.out, ho.out, by omega, held_doneS hH.out (by rw [ho.out.1]; exact HL.out) (by rw [ho.out.1]; omega)⟩
end Go.Proofs.YtncpnjnmljobgaaDoor
