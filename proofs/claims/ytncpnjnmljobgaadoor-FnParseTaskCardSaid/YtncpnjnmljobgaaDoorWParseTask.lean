/-
  The walk of the law that texts of tasks say what is due.
-/
import Derived.Test.YtncpnjnmljobgaaDoorPImplT
import Derived.Test.YtncpnjnmljobgaaDoorDrawP
import Derived.Test.YtncpnjnmljobgaaDoorWText
namespace Go.Proofs.YtncpnjnmljobgaaDoor
set_option maxRecDepth 100000
open Go.RowKit
/-- Is the byte c among the first k? -/
def an (c : UInt8) (l : List UInt8) (k : Nat) : Bool := (l.take k).any (· == c)
theorem an_step {c x : UInt8} {l : List UInt8} {k : Nat} (h : l[k]? = some x) : an c l (k + 1) = (an c l k || x == c) := by
  unfold an
  rw [List.take_add_one, h, List.any_append]
  simp
theorem any_no {c : UInt8} {l : List UInt8} (h : ∀ x ∈ l, x ≠ c) : l.any (· == c) = false := by
  rw [List.any_eq_false]
  intro x hx
  simpa using h x hx
theorem any_by {t : Tk} (h : t.ok = true) : (fmtT t).any (· == 98) = decide (t.due < t.every) := by
  obtain ⟨_, _, ⟨d0, d1⟩, ⟨e0, e1⟩⟩ := ok_bds h
  have hd : (dec t.due).any (· == 98) = false := any_no fun x hx => dg_ne_of (dec_dg2 d0 d1 x hx) (.inr (by decide))
  have he : (dec t.every).any (· == 98) = false := any_no fun x hx => dg_ne_of (dec_dg2 e0 e1 x hx) (.inr (by decide))
  have hn : (needL t.low t.high t.crit).any (· == 98) = false := any_no (need_ne h (.inr (by decide)))
  rw [fmtT_need h, List.any_append, List.any_append, List.any_append, hn, he, show tEvery.any (· == 98) = false by decide]
  by_cases hde : t.due < t.every
  · rw [if_pos hde, List.any_append, show tBy.any (· == 98) = true by decide, decide_eq_true hde]; rfl
  · rw [if_neg hde, decide_eq_false hde]; rfl
theorem any_slash {t : Tk} (h : t.ok = true) : (fmtT t).any (· == 47) = t.crit := by
  obtain ⟨⟨a0, a1⟩, ⟨b0, b1⟩, ⟨d0, d1⟩, ⟨e0, e1⟩⟩ := ok_bds h
  have hl : (dec t.low).any (· == 47) = false := any_no fun x hx => dg_ne_of (dec_dg2 a0 a1 x hx) (.inl (by decide))
  have hd : (dec t.due).any (· == 47) = false := any_no fun x hx => dg_ne_of (dec_dg2 d0 d1 x hx) (.inl (by decide))
  have he : (dec t.every).any (· == 47) = false := any_no fun x hx => dg_ne_of (dec_dg2 e0 e1 x hx) (.inl (by decide))
  have hr : (if t.due < t.every then tBy ++ dec t.due else []).any (· == 47) = false := by
    by_cases hde : t.due < t.every
    · rw [if_pos hde, List.any_append, hd]; decide
    · rw [if_neg hde]; rfl
  rw [fmtT_need h, List.any_append, List.any_append, List.any_append, hr, he, show tEvery.any (· == 47) = false by decide]
  unfold needL
  rw [List.any_append, hl]
  cases hc : t.crit
  · rw [if_neg (by simp)]; rfl
  · rw [if_pos rfl, List.any_cons]; simp
theorem byte_is (x c : UInt8) : ((x.toNat : Int) == (c.toNat : Int)) = (x == c) := by
  by_cases h : x = c
  · subst h; simp
  · have h1 : (x == c) = false := by simpa using h
    rw [h1, beq_eq_false_iff_ne]
    intro e
    exact h (UInt8.toNat_inj.1 (by omega))
set_option maxHeartbeats 8000000 in
theorem w_FnParseTask (A : Option Addr) (n c : Nat) (w : World) (hm : n ≤ maxLen) (hcode : IsBytes w A n c) (hE : Env w) : Calls Tryd.prog 7 #[.slice A n c] w (Ret w (.bool true)) := by
  unfold maxLen at hm
  have HC := Lib.hid hcode
  have HE := Lib.hid hE
  clear hcode hE
  by_cases hn : 1048576 < n
  · go_enter Tryd.func7, Tryd.ntmps7
    go_wp2
    go_ret
    exact ⟨rfl, Below.refl _ _⟩
  go_enter Tryd.func7, Tryd.ntmps7
  go_wp2_with fail
  refine (c_DrawParseTask A n c _ HC.out (by omega)).mono ?_
  rintro r w1 ⟨_, ⟨s, rfl, hx⟩, rfl, hb1⟩
  have HB1 := Lib.hid hb1
  clear hb1
  have CI := Lib.hid (fun W (h : Env W) => c_impl_ParseTask s W h (by omega))
  have CS := Lib.hid (fun W => c_spec_ParseTask s W (by omega))
  go_wp2_with fail
  refine (CI.out _ (HE.out.below HB1.out)).mono ?_
  rintro r w2 ⟨⟨l, h, d, e, q⟩, b, rfl, hb2, hp2⟩
  have HB2 := Lib.hid (below2 HB1.out hb2)
  have HP2 := Lib.hid hp2
  have G2 := Five.new w2 24 (.int .i64 l) (.int .i64 h) (.int .i64 d) (.int .i64 e) (.bool q)
  clear hb2 hp2
  go_wp2_with fail
  refine (CS.out _).mono ?_
  rintro r w3 ⟨t', b', rfl, hb3, hp3⟩
  obtain ⟨rfl, rfl⟩ := HP2.out.same hp3
  have G3 := G2.below hb3
  have HB3 := Lib.hid (below2 HB2.out (below2 (below_alloc _) hb3))
  clear hb3 hp3 G2 CI CS
  generalize w2.heap.size = B at *
  have HG := Lib.hid (G3.below (below_alloc (.cells #[.int .i64 l, .int .i64 h, .int .i64 d, .int .i64 e, .bool q] 24)))
  have HBa := Lib.hid (below2 HB3.out (below_alloc (.cells #[.int .i64 l, .int .i64 h, .int .i64 d, .int .i64 e, .bool q] 24)))
  obtain ⟨k0, k1, k2, k3, k4, k5⟩ := G3
  cases b
  · go_wp2
    go_ret
    exact ⟨rfl, HBa.out⟩
  · have HOK := Lib.hid (show tvB l h d e q = true ∧ fmtT ⟨l, h, d, e, q⟩ = s.data.toList from by
      rcases HP2.out with ⟨_, h2, h3⟩ | ⟨h1, _⟩
      · exact ⟨h2, h3⟩
      · cases h1)
    obtain ⟨N, hN⟩ : ∃ N, s.size = N := ⟨_, rfl⟩
    have HL := Lib.hid (ByteArray.toList_eq s)
    have CV := Lib.hid (fun W => show Calls Tryd.prog 11 #[.agg #[.int .i64 l, .int .i64 h, .int .i64 d, .int .i64 e, .bool q]] W (Ret W (.bool true)) from by
      have hc := c_impl_TaskValid l h d e q W
      rw [HOK.out.1] at hc
      exact hc)
    have HT1 := Lib.hid (show an 98 s.data.toList N = decide (d < e) from by
      unfold an
      rw [← hN, show s.size = s.data.toList.length by rw [Array.length_toList]; rfl, List.take_length, ← HOK.out.2]
      exact any_by (t := ⟨l, h, d, e, q⟩) HOK.out.1)
    have HT2 := Lib.hid (show an 47 s.data.toList N = q from by
      unfold an
      rw [← hN, show s.size = s.data.toList.length by rw [Array.length_toList]; rfl, List.take_length, ← HOK.out.2]
      exact any_slash (t := ⟨l, h, d, e, q⟩) HOK.out.1)
    go_wp2
    clear k0 k1 k2 k3 k4 k5
    go_loopw [8, 9, 10] (fun u f i wr => ∃ k : Nat, k ≤ N ∧ i = .int .i64 k ∧ u = .bool (an 98 s.data.toList k) ∧ f = .bool (an 47 s.data.toList k) ∧ Hid (Below w.heap.size w wr) ∧ Hid (Five wr B (.int .i64 l) (.int .i64 h) (.int .i64 d) (.int .i64 e) (.bool q))) (fun _ _ i _ => N - (intOf i).toNat)
    case atStart => exact ⟨0, Nat.zero_le _, rfl, rfl, rfl, HBa, HG⟩
    case round =>
      obtain ⟨k, hk, rfl, rfl, rfl, hb, hg⟩ := hrel
      by_cases hlt : k < N
      · have hks : k < s.size := by omega
        have hX := byte_at' HL.out hks
        have E1 := Lib.hid (an_step (c := 98) hX)
        have E2 := Lib.hid (an_step (c := 47) hX)
        have hx1 : (((s[k]'hks).toNat : Int) == 98) = (s[k] == 98) := byte_is _ 98
        have hx2 : (((s[k]'hks).toNat : Int) == 47) = (s[k] == 47) := byte_is _ 47
        clear hX HT1 HT2
        generalize an 98 s.data.toList k = b1 at *
        generalize an 47 s.data.toList k = b2 at *
        generalize (s[k] == 98) = p1 at *
        generalize (s[k] == 47) = p2 at *
        have ways : (b1 = true ∨ (b1 = false ∧ p1 = true) ∨ (b1 = false ∧ p1 = false)) ∧ (b2 = true ∨ (b2 = false ∧ p2 = true) ∨ (b2 = false ∧ p2 = false)) := by
          cases b1 <;> cases b2 <;> cases p1 <;> cases p2 <;> simp
        obtain ⟨rfl | ⟨rfl, rfl⟩ | ⟨rfl, rfl⟩, rfl | ⟨rfl, rfl⟩ | ⟨rfl, rfl⟩⟩ := ways
        all_goals
          go_wp2
          go_roundw
          case rel => exact ⟨k + 1, by omega, by go_num, by rw [E1.out]; rfl, by rw [E2.out]; rfl, hb, hg⟩
          case measure => simp [intOf]; omega
      · obtain rfl : k = N := by omega
        rw [HT1.out, HT2.out]
        obtain ⟨k0, k1, k2, k3, k4, k5⟩ := hg.out
        by_cases hde : d < e
        · rw [decide_eq_true hde]
          go_wp2_with fail
          refine (CV.out _).mono ?_
          rintro r w9 ⟨rfl, hb9⟩
          have F9 := hg.out.below hb9
          have HB9 := Lib.hid (below2 hb.out hb9)
          clear hb9 k0 k1 k2 k3 k4 k5
          obtain ⟨k0, k1, k2, k3, k4, k5⟩ := F9
          cases q
          · go_wp2
            go_ret
            exact ⟨rfl, HB9.out⟩
          · go_wp2
            go_ret
            exact ⟨rfl, HB9.out⟩
        · rw [decide_eq_false hde]
          go_wp2_with fail
          refine (CV.out _).mono ?_
          rintro r w9 ⟨rfl, hb9⟩
          have F9 := hg.out.below hb9
          have HB9 := Lib.hid (below2 hb.out hb9)
          clear hb9 k0 k1 k2 k3 k4 k5
          obtain ⟨k0, k1, k2, k3, k4, k5⟩ := F9
          cases q
          · go_wp2
            go_ret
            exact ⟨by show Ending.returned (.bool (!decide (d < e))) = _; rw [decide_eq_false (by omega)]; rfl, HB9.out⟩
          · go_wp2
            go_ret
            exact ⟨by show Ending.returned (.bool (!decide (d < e))) = _; rw [decide_eq_false (by omega)]; rfl, HB9.out⟩
end Go.Proofs.YtncpnjnmljobgaaDoor
