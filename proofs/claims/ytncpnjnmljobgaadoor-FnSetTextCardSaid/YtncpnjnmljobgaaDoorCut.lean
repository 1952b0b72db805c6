/-
  The reference's cutting of a text.
-/
import Derived.Test.YtncpnjnmljobgaaDoorMathP
import Derived.Test.YtncpnjnmljobgaaDoorOwnS
import Derived.Test.YtncpnjnmljobgaaDoorNum
namespace Go.Proofs.YtncpnjnmljobgaaDoor
set_option maxRecDepth 100000
open Go.RowKit
theorem extract_toList {s : ByteArray} {l : List UInt8} (h : s.toList = l) (a b : Nat) : (s.extract a b).data.toList = (l.take b).drop a := by
  rw [← h, ByteArray.toList_eq, ByteArray.data_extract, Array.toList_extract]
  show (s.data.toList.drop a).take (b - a) = _
  rw [List.drop_take]
theorem extract_bs {s : ByteArray} {l : List UInt8} (h : s.toList = l) (a b : Nat) : s.extract a b = bs ((l.take b).drop a) := by
  rw [← extract_toList h a b, bs_list]
/-- What the loop has cut so far: the pieces laid, the piece under way, the rest. -/
def CutAt (c : UInt8) (l : List UInt8) (fr i : Nat) (ps : List (List UInt8)) : Prop :=
  (i ≤ l.length ∧ cutL c l = ps ++ cutG c ((l.take i).drop fr) (l.drop i)) ∨ (i = l.length + 1 ∧ cutL c l = ps)
theorem cutAt_start (c : UInt8) (l : List UInt8) : CutAt c l 0 0 [] := .inl ⟨Nat.zero_le _, by simp [cutL]⟩
theorem cutAt_hit {c : UInt8} {l : List UInt8} {fr i : Nat} {ps : List (List UInt8)} (h : CutAt c l fr i ps) (hx : l[i]? = some c) : CutAt c l (i + 1) (i + 1) (ps ++ [(l.take i).drop fr]) := by
  have hi := (List.getElem?_eq_some_iff.1 hx).1
  rcases h with ⟨_, h⟩ | ⟨h, _⟩
  · refine .inl ⟨by omega, ?_⟩
    rw [h, List.drop_eq_getElem_cons hi, (List.getElem?_eq_some_iff.1 hx).2, cutG, if_pos rfl]
    have e : (l.take (i + 1)).drop (i + 1) = [] := List.drop_eq_nil_of_le (by rw [List.length_take]; omega)
    rw [e, List.append_assoc]
    rfl
  · omega
theorem cutAt_miss {c x : UInt8} {l : List UInt8} {fr i : Nat} {ps : List (List UInt8)} (h : CutAt c l fr i ps) (hx : l[i]? = some x) (hc : x ≠ c) (hf : fr ≤ i) : CutAt c l fr (i + 1) ps := by
  have hi := (List.getElem?_eq_some_iff.1 hx).1
  rcases h with ⟨_, h⟩ | ⟨h, _⟩
  · refine .inl ⟨by omega, ?_⟩
    rw [h, List.drop_eq_getElem_cons hi, (List.getElem?_eq_some_iff.1 hx).2, cutG, if_neg hc]
    have e : (l.take (i + 1)).drop fr = (l.take i).drop fr ++ [x] := by
      rw [List.take_add_one, hx, List.drop_append_of_le_length (by rw [List.length_take]; omega)]
      rfl
    rw [e]
  · omega
theorem cutAt_last {c : UInt8} {l : List UInt8} {fr i : Nat} {ps : List (List UInt8)} (h : CutAt c l fr i ps) (hi : i = l.length) : CutAt c l (i + 1) (i + 1) (ps ++ [(l.take i).drop fr]) := by
  rcases h with ⟨_, h⟩ | ⟨h, _⟩
  · refine .inr ⟨by omega, ?_⟩
    have e : l.drop i = [] := List.drop_eq_nil_of_le (by omega)
    rw [h, e]
    rfl
  · omega
theorem cutAt_end {c : UInt8} {l : List UInt8} {fr i : Nat} {ps : List (List UInt8)} (h : CutAt c l fr i ps) (hi : ¬ i ≤ l.length) : cutL c l = ps := by
  rcases h with ⟨h, _⟩ | ⟨_, h⟩
  · exact absurd h hi
  · exact h
/-- A new row of strings that holds the pieces ps. -/
def GotS (w : World) (e : TypeId) (ps : List (List UInt8)) (r : Ending) (w' : World) : Prop := ∃ A n c, r = .returned (.slice A n c) ∧ Below w.heap.size w w' ∧ OwnS w' w.heap.size e A n c (ps.map bs) ∧ n ≤ 1048577
set_option maxHeartbeats 1000000 in
theorem c_l11Cut (s : ByteArray) (c : UInt8) (m : Int) (w : World) (hm : m = c.toNat) (hs : s.size ≤ 1048576) : Calls Tryd.prog 38 #[.string s, .int .u8 m] w (GotS w 9 (cutL c s.data.toList)) := by
  obtain ⟨i0, hi, hz0, hz1, hz2⟩ := info_parts info_Str
  have HI := Lib.hid (And.intro hi (And.intro hz0 (And.intro hz1 hz2)))
  clear hi hz0 hz1 hz2
  have hl : s.toList = s.data.toList := ByteArray.toList_eq s
  obtain ⟨N, hN⟩ : ∃ N, s.size = N := ⟨_, rfl⟩
  have HN := Lib.hid (show s.data.toList.length = N by rw [← hN, Array.length_toList]; rfl)
  have HL := Lib.hid hl
  have HM := Lib.hid hm
  have HB1 := Lib.hid (below_alloc (w := w) (.cells #[] 9))
  have HO1 := Lib.hid (OwnS.empty (e := 9) w (Nat.le_refl _))
  generalize hq : s.data.toList = l at HL HN
  clear hl hq hm
  have hN9 : N ≤ 1048576 := by omega
  go_enter Tryd.func38, Tryd.ntmps38
  go_wp2
  go_loopw [5, 6, 7] (fun u f i wr => ∃ (k fr q c1 : Nat) (A1 : Option Addr) (ps : List (List UInt8)), k ≤ N + 1 ∧ fr ≤ k ∧ q ≤ k ∧ i = .int .i64 k ∧ f = .int .i64 fr ∧ u = .slice A1 q c1 ∧ Hid (CutAt c l fr k ps) ∧ Hid (Below w.heap.size w wr) ∧ Hid (OwnS wr w.heap.size 9 A1 q c1 (ps.map bs))) (fun _ _ i _ => N + 1 - (intOf i).toNat)
  case atStart => exact ⟨0, 0, 0, 0, _, [], Nat.zero_le _, Nat.le_refl _, Nat.le_refl _, rfl, rfl, rfl, cutAt_start c l, HB1, HO1⟩
  case round =>
    clear HB1 HO1
    obtain ⟨k, fr, q, c1, A1, ps, hk, hfr, hqk, rfl, rfl, rfl, hcut, hb, ho⟩ := hrel
    by_cases hle : k ≤ N
    · by_cases hlt : k < N
      · have hks : k < s.size := by omega
        have HX := Lib.hid (byte_at' HL.out hks)
        by_cases hx : s[k] = c
        · have hxe : (((s[k]'hks).toNat : Int) == m) = true := by rw [hx, HM.out]; simp
          rw [hx] at HX
          have HC := Lib.hid (cutAt_hit hcut.out HX.out)
          have HE := Lib.hid (extract_bs HL.out fr k)
          have hfk : (fr : Int) ≤ (k : Int) := by omega
          have hkN : (k : Int) ≤ (N : Int) := by omega
          have hkN' : (k : Int) < (N : Int) := by omega
          clear hx
          go_wp2_with (at_builtin; refine wpList_append_string rfl _ _ 55 rfl i0 Tryd.underlying55 HI.out.1 HI.out.2.1 HI.out.2.2.1 HI.out.2.2.2 rfl (ho.out.below (below_alloc _)) (by omega) _ (s.extract fr k) rfl (by simp) ((below2 hb.out (below_alloc _)).size) ?_; intro A2 c2 w3 ho3 hg3; have HO3 := Lib.hid ho3; have HB3 := Lib.hid (own_below_s (below2 hb.out (below_alloc _)) (ho.out.below (below_alloc _)) hg3 (below2 hb.out (below_alloc _)).size); clear ho3 hg3)
          go_roundw
          case rel =>
            refine ⟨k + 1, k + 1, q + 1, c2, A2, ps ++ [(l.take k).drop fr], by omega, by omega, by omega, by go_num, by go_num, rfl, HC, HB3, ?_⟩
            rw [List.map_append, show List.map bs [(l.take k).drop fr] = [s.extract fr k] by rw [HE.out]; rfl]
            exact HO3
          case measure => simp [intOf]; omega
        · have hxe : (((s[k]'hks).toNat : Int) == m) = false := by
            rw [HM.out, beq_eq_false_iff_ne]
            intro e
            exact hx (UInt8.toNat_inj.1 (by omega))
          have HC := Lib.hid hx
          clear hx
          go_wp2
          go_roundw
          case rel => exact ⟨k + 1, fr, q, c1, A1, ps, by omega, by omega, by omega, by go_num, rfl, rfl, cutAt_miss hcut.out HX.out HC.out hfr, hb, ho⟩
          case measure => simp [intOf]; omega
      · obtain rfl : k = N := by omega
        have HC := Lib.hid (cutAt_last hcut.out HN.out.symm)
        have HE := Lib.hid (extract_bs HL.out fr k)
        have hfk : (fr : Int) ≤ (k : Int) := by omega
        go_wp2_with (at_builtin; refine wpList_append_string rfl _ _ 55 rfl i0 Tryd.underlying55 HI.out.1 HI.out.2.1 HI.out.2.2.1 HI.out.2.2.2 rfl (ho.out.below (below_alloc _)) (by omega) _ (s.extract fr k) rfl (by simp) ((below2 hb.out (below_alloc _)).size) ?_; intro A2 c2 w3 ho3 hg3; have HO3 := Lib.hid ho3; have HB3 := Lib.hid (own_below_s (below2 hb.out (below_alloc _)) (ho.out.below (below_alloc _)) hg3 (below2 hb.out (below_alloc _)).size); clear ho3 hg3)
        go_roundw
        case rel =>
          refine ⟨k + 1, k + 1, q + 1, c2, A2, ps ++ [(l.take k).drop fr], by omega, by omega, by omega, by go_num, by go_num, rfl, HC, HB3, ?_⟩
          rw [List.map_append, show List.map bs [(l.take k).drop fr] = [s.extract fr k] by rw [HE.out]; rfl]
          exact HO3
        case measure => simp [intOf]
    · have hle' : ¬ (k : Int) ≤ (N : Int) := by omega
      go_wp2
      go_ret
      exact ⟨A1, q, c1, rfl, hb.out, by rw [cutAt_end hcut.out (by rw [HN.out]; exact hle)]; exact ho.out, by omega⟩
end Go.Proofs.YtncpnjnmljobgaaDoor
