/-
  The walks of the laws on the text of a share.
-/
import Derived.Test.YtnfflpaipabbmaaDoorTextS
import Derived.Test.YtnfflpaipabbmaaDoorMathT2
import Derived.Test.YtnfflpaipabbmaaDoorDraw2
import Derived.Test.YtnfflpaipabbmaaDoorWShare
import Derived.Test.YtnfflpaipabbmaaDoorWText
namespace Go.Proofs.YtnfflpaipabbmaaDoor
set_option maxRecDepth 100000
open Go.RowKit
set_option maxHeartbeats 1000000 in
theorem w_FnExactFormatShare (a b : Int) (w : World) (hE : Env w) : Calls Tryd.prog 4 #[.agg #[.int .i64 a, .int .i64 b]] w (Ret w (.bool true)) := by
  have CI := Lib.hid (c_impl_FormatShare a b)
  have CS := Lib.hid (c_spec_FormatShare a b)
  have HE := Lib.hid hE
  clear hE
  generalize bs (fmtS a b) = s at CI CS
  go_enter Tryd.func4, Tryd.ntmps4
  go_wp2_with fail
  refine (c_toShare _ _ _).mono ?_
  rintro r w1 ⟨rfl, hb1⟩
  obtain ⟨hc1, hf1⟩ := bcell hb1
  go_wp2_with fail
  refine (CS.out _).mono ?_
  rintro r w2 ⟨rfl, hb2⟩
  clear hc1 hf1
  obtain ⟨hc2, hf2⟩ := bcell (below2 hb1 hb2)
  go_wp2_with fail
  refine (c_toShare _ _ _).mono ?_
  rintro r w3 ⟨rfl, hb3⟩
  clear hc2 hf2
  go_wp2_with fail
  refine (CI.out _ (HE.out.below (below2 (below_alloc _) (below2 hb1 (below2 hb2 hb3))))).mono ?_
  rintro r w4 ⟨rfl, hb4⟩
  go_wp2
  go_ret
  exact ⟨rfl, below2 (below_alloc _) (below2 hb1 (below2 hb2 (below2 hb3 hb4)))⟩
set_option maxHeartbeats 2000000 in
theorem w_FnFormatShare (A : Option Addr) (n c : Nat) (w : World) (hm : n ≤ maxLen) (h : IsBytes w A n c) (hE : Env w) : Calls Tryd.prog 5 #[.slice A n c] w (Ret w (.bool true)) := by
  unfold maxLen at hm
  have HE := Lib.hid hE
  clear hE
  by_cases hn : 1048576 < n
  · go_enter Tryd.func5, Tryd.ntmps5
    go_wp2
    go_ret
    exact ⟨rfl, Below.refl _ _⟩
  · go_enter Tryd.func5, Tryd.ntmps5
    go_wp2_with fail
    refine (c_DrawFormatShare A n c w h (by omega)).mono ?_
    rintro r w1 ⟨v, ⟨a, b, rfl⟩, rfl, hb1⟩
    have HB1 := Lib.hid hb1
    have HE1 := Lib.hid (HE.out.below (below2 hb1 (below_alloc (w := w1) (.cells #[.int .i64 a, .int .i64 b] 31))))
    clear hb1 h
    have CI := Lib.hid (c_impl_FormatShare a b)
    have CS := Lib.hid (c_spec_FormatShare a b)
    have CV := Lib.hid (c_impl_ShareValid a b)
    have CW := Lib.hid (c_spec_ShareValid a b)
    cases hv : shB a b
    · rw [fmtS_no hv, show bs [] = { data := #[] } from rfl] at CI CS
      rw [hv] at CV CW
      go_wp2_with fail
      refine (CI.out _ HE1.out).mono ?_
      rintro r w2 ⟨rfl, hb2⟩
      obtain ⟨y0, y1, y2⟩ := box2 hb2
      have HB2 := Lib.hid (below2 HB1.out (below2 (below_alloc (w := w1) (.cells #[.int .i64 a, .int .i64 b] 31)) hb2))
      clear hb2
      generalize w1.heap.size = G at y0 y1 y2 ⊢
      have hcum : Below w.heap.size w w2.drew := below_drewN HB2.out 1
      go_wp2_with fail
      go_region_held3 (fun w' => w'.cell? ⟨G, 0, none⟩ = some (.int .i64 a) ∧ w'.cell? ⟨G, 1, none⟩ = some (.int .i64 b)) (go_keep) (first
        | (go_at_call 13; go_must (refine Calls.mono (keep2 (b1 := G) (o1 := 0) (u1 := .int .i64 a) (b2 := G) (o2 := 1) (u2 := .int .i64 b) (CS.out _) ?_ ?_) ?_; iterate 2 (first | (with_reducible assumption) | exact y0 | exact y1 | go_keep)); rintro r wP ⟨⟨rfl, hP⟩, y0, y1⟩; have hcum := below2 hcum hP)
        | (go_at_call 17; go_must (refine Calls.mono (keep2 (b1 := G) (o1 := 0) (u1 := .int .i64 a) (b2 := G) (o2 := 1) (u2 := .int .i64 b) (CV.out _) ?_ ?_) ?_; iterate 2 (first | (with_reducible assumption) | exact y0 | exact y1 | go_keep)); rintro r wP ⟨⟨rfl, hP⟩, y0, y1⟩; have hcum := below2 hcum hP)
        | (go_at_call 18; go_must (refine Calls.mono (keep2 (b1 := G) (o1 := 0) (u1 := .int .i64 a) (b2 := G) (o2 := 1) (u2 := .int .i64 b) (CW.out _) ?_ ?_) ?_; iterate 2 (first | (with_reducible assumption) | exact y0 | exact y1 | go_keep)); rintro r wP ⟨⟨rfl, hP⟩, y0, y1⟩; have hcum := below2 hcum hP))
      all_goals
        have HC := Lib.hid hcum
        clear hcum
        go_wp2
        refine wp_loop_rounds 1 ?_
        rw [rounds_succ]
        go_wp2
        go_ret
        exact ⟨rfl, HC.out⟩
    · obtain ⟨s, es, s1, s2⟩ := fmtS_ne hv
      rw [es] at CI CS
      rw [hv] at CV CW
      have HS := Lib.hid (fmtS_slash hv)
      have HL := Lib.hid (show s.toList = fmtS a b by rw [← es, bs_toList])
      obtain ⟨N, hN⟩ : ∃ N, s.size = N := ⟨_, rfl⟩
      have HN := Lib.hid hN
      have hN9 : N ≤ 21 := by rw [← hN, ← es, bs_size]; exact fmtS_len hv
      clear es hv hN
      go_wp2_with fail
      refine (CI.out _ HE1.out).mono ?_
      rintro r w2 ⟨rfl, hb2⟩
      obtain ⟨y0, y1, y2⟩ := box2 hb2
      have HB2 := Lib.hid (below2 HB1.out (below2 (below_alloc (w := w1) (.cells #[.int .i64 a, .int .i64 b] 31)) hb2))
      clear hb2
      generalize w1.heap.size = G at y0 y1 y2 ⊢
      have hcum : Below w.heap.size w w2.drew := below_drewN HB2.out 1
      go_wp2_with fail
      go_region_held3 (fun w' => w'.cell? ⟨G, 0, none⟩ = some (.int .i64 a) ∧ w'.cell? ⟨G, 1, none⟩ = some (.int .i64 b)) (go_keep) (first
        | (go_at_call 13; go_must (refine Calls.mono (keep2 (b1 := G) (o1 := 0) (u1 := .int .i64 a) (b2 := G) (o2 := 1) (u2 := .int .i64 b) (CS.out _) ?_ ?_) ?_; iterate 2 (first | (with_reducible assumption) | exact y0 | exact y1 | go_keep)); rintro r wP ⟨⟨rfl, hP⟩, y0, y1⟩; have hcum := below2 hcum hP)
        | (go_at_call 17; go_must (refine Calls.mono (keep2 (b1 := G) (o1 := 0) (u1 := .int .i64 a) (b2 := G) (o2 := 1) (u2 := .int .i64 b) (CV.out _) ?_ ?_) ?_; iterate 2 (first | (with_reducible assumption) | exact y0 | exact y1 | go_keep)); rintro r wP ⟨⟨rfl, hP⟩, y0, y1⟩; have hcum := below2 hcum hP)
        | (go_at_call 18; go_must (refine Calls.mono (keep2 (b1 := G) (o1 := 0) (u1 := .int .i64 a) (b2 := G) (o2 := 1) (u2 := .int .i64 b) (CW.out _) ?_ ?_) ?_; iterate 2 (first | (with_reducible assumption) | exact y0 | exact y1 | go_keep)); rintro r wP ⟨⟨rfl, hP⟩, y0, y1⟩; have hcum := below2 hcum hP))
      have HC := Lib.hid hcum
      have hG := cellLt2 y0
      have Y1 := Lib.hid y1
      have HT := Lib.hid (And.intro s1 s2)
      have hN := HN.out
      clear hcum y0 y1 s1 s2
      go_wp2
      go_loopw [5, 6] (fun u i wr => ∃ k : Nat, k ≤ N ∧ i = .int .i64 k ∧ u = .bool (hasB 47 ((fmtS a b).take k)) ∧ Below wP.heap.size wP wr) (fun _ i _ => N - (intOf i).toNat)
      case atStart => exact ⟨0, Nat.zero_le _, rfl, by simp [hasB], Below.refl _ _⟩
      case round =>
        obtain ⟨k, hk, rfl, rfl, hb⟩ := hrel
        have HB := Lib.hid hb
        clear hb
        by_cases hlt : k < N
        · cases hq : hasB 47 ((fmtS a b).take k)
          · have hks : k < s.size := by rw [hN]; exact hlt
            have HX := Lib.hid (byte_at HL.out hks)
            have HU := Lib.hid (u8_eq (s[k]'hks) 47 (m := 47) rfl)
            have HQ := Lib.hid hq
            clear hq
            go_wp2
            go_roundw
            case rel => exact ⟨k + 1, by omega, by go_num, by rw [HU.out, hasB_take HX.out, HQ.out, Bool.false_or], HB.out⟩
            case measure => simp [intOf]; omega
          · have hks : k < s.size := by rw [hN]; exact hlt
            have HX := Lib.hid (byte_at HL.out hks)
            have HQ := Lib.hid hq
            clear hq
            go_wp2
            go_roundw
            case rel => exact ⟨k + 1, by omega, by go_num, by rw [hasB_take HX.out, HQ.out, Bool.true_or], HB.out⟩
            case measure => simp [intOf]; omega
        · have y1 := kept Y1.out HB.out hG
          have hlen : (fmtS a b).length = N := by rw [← HL.out, ByteArray.toList_eq, Array.length_toList]; exact hN
          rw [List.take_of_length_le (by omega), HS.out]
          obtain ⟨s1, s2⟩ := HT.out
          clear hlen
          go_wp2
          go_ret
          exact ⟨rfl, below2 HC.out HB.out⟩
end Go.Proofs.YtnfflpaipabbmaaDoor
