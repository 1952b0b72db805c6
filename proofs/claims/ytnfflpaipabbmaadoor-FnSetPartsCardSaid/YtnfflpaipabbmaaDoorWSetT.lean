/-
  The walk of the law that sets have parts.
-/
import Derived.Test.YtnfflpaipabbmaaDoorSetT
import Derived.Test.YtnfflpaipabbmaaDoorSets
import Derived.Test.YtnfflpaipabbmaaDoorWText
namespace Go.Proofs.YtnfflpaipabbmaaDoor
set_option maxRecDepth 100000
open Go.RowKit
theorem joinTail_app (sep : List UInt8) (a b : List (List UInt8)) : Lib.joinTail sep (a ++ b) = Lib.joinTail sep a ++ Lib.joinTail sep b := by
  unfold Lib.joinTail
  simp
theorem join_parts {a b : List (List UInt8)} (sep : List UInt8) (ha : a ≠ []) (hb : b ≠ []) : Lib.join (a ++ b) sep = Lib.join a sep ++ sep ++ Lib.join b sep := by
  cases a with
  | nil => exact absurd rfl ha
  | cons x a =>
    cases b with
    | nil => exact absurd rfl hb
    | cons y b =>
      rw [List.cons_append, Lib.join_cons, Lib.join_cons, Lib.join_cons, joinTail_app]
      simp [Lib.joinTail]
theorem svB_take {ts : List Tk} (h : svB ts = true) (k : Nat) : svB (ts.take k) = true := by
  have := svB_len h
  refine svB_of (by rw [List.length_take]; omega) fun j t ht => ?_
  rw [List.getElem?_take] at ht
  by_cases hj : j < k
  · rw [if_pos hj] at ht; exact svB_ok h ht
  · rw [if_neg hj] at ht; cases ht
theorem svB_drop {ts : List Tk} (h : svB ts = true) (k : Nat) : svB (ts.drop k) = true := by
  have := svB_len h
  refine svB_of (by rw [List.length_drop]; omega) fun j t ht => ?_
  rw [List.getElem?_drop] at ht
  exact svB_ok h ht
/-- The parts of a text. -/
theorem fmtSet_parts {ts : List Tk} (h : svB ts = true) {k : Nat} (h0 : 0 < k) (h1 : k < ts.length) : bs (fmtSet ts) = bs (fmtSet (ts.take k)) ++ { data := #[59, 32] } ++ bs (fmtSet (ts.drop k)) := by
  rw [show ({ data := #[59, 32] } : ByteArray) = bs tSep from rfl, bs_append, bs_append, fmtSet_yes h, fmtSet_yes (svB_take h k), fmtSet_yes (svB_drop h k), ← join_parts]
  · rw [← List.map_append, List.take_append_drop]
  · intro e
    have := congrArg List.length e
    simp only [List.length_map, List.length_take, List.length_nil] at this
    omega
  · intro e
    have := congrArg List.length e
    simp only [List.length_map, List.length_drop, List.length_nil] at this
    omega
theorem fmtSet_nil : fmtSet [] = [] := rfl
theorem fmtSet_ne {ts : List Tk} (h : svB ts = true) (h0 : ts ≠ []) : ∃ s : ByteArray, bs (fmtSet ts) = s ∧ s.toList.isEmpty = false ∧ (!s.toList.isEmpty) = true := by
  have hc : ∃ a l, fmtSet ts = a :: l := by
    cases ts with
    | nil => exact absurd rfl h0
    | cons t ts =>
      obtain ⟨a, l, e⟩ := fmtT_cons (svB_ok h (k := 0) (t := t) rfl)
      exact ⟨a, l ++ Lib.joinTail tSep (ts.map fmtT), by rw [fmtSet_yes h, List.map_cons, Lib.join_cons, e]; rfl⟩
  obtain ⟨a, l, e⟩ := hc
  exact ⟨_, rfl, by rw [bs_toList, e]; rfl, by rw [bs_toList, e]; rfl⟩
theorem fmtSet_len {ts : List Tk} (h : svB ts = true) : (bs (fmtSet ts)).size ≤ 110 := by
  have h1 := fmtK_len h ts.length (Nat.le_refl _)
  rw [fmtK_all rfl] at h1
  rw [bs_size, fmtSet_yes h]
  have := svB_len h
  omega
theorem bytes_beq {a b : ByteArray} (h : a = b) : (a.toList == b.toList) = true := by rw [h]; simp
set_option maxHeartbeats 2000000 in
theorem w_FnSetParts (A : Option Addr) (n c : Nat) (w : World) (hm : n ≤ maxLen) (hcode : IsBytes w A n c) : Calls Tryd.prog 9 #[.slice A n c] w (Ret w (.bool true)) := by
  unfold maxLen at hm
  by_cases hn : 1048576 < n
  · go_enter Tryd.func9, Tryd.ntmps9
    go_wp2
    go_ret
    exact ⟨rfl, Below.refl _ _⟩
  · have HC := Lib.hid hcode
    clear hcode
    go_enter Tryd.func9, Tryd.ntmps9
    go_wp2_with fail
    refine (c_spec_DrawFormatSet A n c _ HC.out (by omega)).mono ?_
    rintro r w1 ⟨A1, n1, c1, ts, rfl, hn1, hnc1, hb1, hi1⟩
    have hc1 := hnc1.1
    have HB1 := Lib.hid hb1
    have HI1 := Lib.hid hi1
    have HL := Lib.hid hi1.1
    clear hb1 hi1 hnc1
    have CI := Lib.hid (fun W (h : IsTs W A1 n1 ts) => c_impl_FormatSet A1 n1 c1 ts W h (by omega))
    have CS := Lib.hid (fun W (h : IsTs W A1 n1 ts) => c_spec_FormatSet A1 n1 c1 ts W h (by omega))
    by_cases hv : svB ts = true ∧ ts ≠ []
    · obtain ⟨s, es, s1, s2⟩ := fmtSet_ne hv.1 hv.2
      rw [es] at CI CS
      have HS := Lib.hid es
      have HV := Lib.hid hv
      have hn0 : 0 < n1 := by
        rcases Nat.eq_zero_or_pos n1 with h0 | h0
        · exact absurd (List.length_eq_zero_iff.1 (by rw [HL.out]; exact h0)) hv.2
        · exact h0
      clear hv es
      go_wp2_with fail
      refine (CI.out _ HI1.out).mono ?_
      rintro r w2 ⟨rfl, hb2⟩
      have HB2 := Lib.hid (below2 HB1.out hb2)
      have HI2 := Lib.hid (HI1.out.below hb2)
      clear hb2
      go_wp2_with fail
      refine (CS.out _ HI2.out).mono ?_
      rintro r w3 ⟨rfl, hb3⟩
      have HB3 := Lib.hid (below2 HB2.out hb3)
      have HI3 := Lib.hid (HI2.out.below hb3)
      clear hb3
      obtain ⟨h, hh⟩ : ∃ h : Nat, h = n1 / 2 := ⟨_, rfl⟩
      have hq : (n1 : Int) / 2 = (h : Int) := by omega
      have hh1 : (h : Int) < (n1 : Int) := by omega
      have hh2 : (h : Int) ≤ (c1 : Int) := by omega
      have hh3 : (h : Int) < (c1 : Int) := by omega
      have hh4 : (0 : Int) ≤ (h : Int) := by omega
      have hh5 : h ≤ n1 := by omega
      have hh6 : h = 0 → n1 = 1 := by omega
      have HH6 := Lib.hid hh6
      have hh7 : (0 : Int) ≤ (n1 : Int) := by omega
      have hh8 : (n1 : Int) ≤ 6 := by omega
      clear hh hh6
      obtain ⟨t, ht⟩ : ∃ t, ts[0]? = some t := at_of (by have := HL.out; omega)
      obtain ⟨b, o, rfl, _⟩ := HI3.out.2 0 t ht
      have CA := Lib.hid (fun W (k : IsTs W (some ⟨b, o, none⟩) n1 ts) => c_impl_FormatSet (some ⟨b, o, none⟩) h c1 (ts.take h) W (k.take hh5) (by omega))
      have CB := Lib.hid (fun W (k : IsTs W (some ⟨b, o, none⟩) n1 ts) => c_impl_FormatSet (some ⟨b, o + h * 5, none⟩) (n1 - h) (c1 - h) (ts.drop h) W (k.drop hh5) (by omega))
      clear ht
      by_cases h0 : h = 0
      · subst h0
        have hA0 : ∀ W, Calls Tryd.prog 24 #[.slice (some ⟨b, o, none⟩) 0 c1] W (Ret W (.string { data := #[] })) := fun W => c_impl_FormatSet (some ⟨b, o, none⟩) 0 c1 [] W IsTs.none_ (by omega)
        have HA0 := Lib.hid hA0
        clear CA CB hA0 hh1 hh2 hh4 hh5
        have hq' : (n1 : Int) / 2 = 0 := hq
        have hc0 : (0 : Int) < (c1 : Int) := by omega
        clear hq hh3
        go_wp2_with fail
        refine (HA0.out _).mono ?_
        rintro r w4 ⟨rfl, hb4⟩
        have HB4 := Lib.hid (below2 HB3.out hb4)
        have HI4 := Lib.hid (HI3.out.below hb4)
        clear hb4
        go_wp2_with fail
        refine (CI.out _ HI4.out).mono ?_
        rintro r w5 ⟨rfl, hb5⟩
        have HB5 := Lib.hid (below2 HB4.out hb5)
        clear hb5
        go_wp2
        go_ret
        exact ⟨rfl, HB5.out⟩
      · obtain ⟨sa, ea, a1, a2⟩ := fmtSet_ne (ts := ts.take h) (svB_take HV.out.1 h) (by
          intro e
          have h1 : (ts.take h).length = 0 := by rw [e]; rfl
          rw [List.length_take, HL.out] at h1
          omega)
        have za : sa.size ≤ 110 := by rw [← ea]; exact fmtSet_len (svB_take HV.out.1 h)
        have zb : (bs (fmtSet (ts.drop h))).size ≤ 110 := fmtSet_len (svB_drop HV.out.1 h)
        have hpar := fmtSet_parts HV.out.1 (k := h) (by omega) (by have := HL.out; omega)
        have CV := Lib.hid (fun W (k : IsTs W (some ⟨b, o, none⟩) n1 ts) => c_impl_SetValid (some ⟨b, o, none⟩) h c1 (ts.take h) W (k.take hh5) (by omega))
        rw [svB_take HV.out.1 h] at CV
        rw [ea] at CA hpar
        generalize bs (fmtSet (ts.drop h)) = sb at *
        have HPar := Lib.hid (show s = sa ++ { data := #[59, 32] } ++ sb from HS.out.symm.trans hpar)
        clear hpar ea HS h0
        go_wp2_with fail
        have hpar := HPar.out
        clear HPar s1 s2
        subst hpar
        refine (CA.out _ HI3.out).mono ?_
        rintro r w4 ⟨rfl, hb4⟩
        have HB4 := Lib.hid (below2 HB3.out hb4)
        have HI4 := Lib.hid (HI3.out.below hb4)
        clear hb4
        go_wp2_with fail
        refine (CB.out _ HI4.out).mono ?_
        rintro r w5 ⟨rfl, hb5⟩
        have HB5 := Lib.hid (below2 HB4.out hb5)
        have HI5 := Lib.hid (HI4.out.below hb5)
        clear hb5
        go_wp2_with fail
        refine (CV.out _ HI5.out).mono ?_
        rintro r w6 ⟨rfl, hb6⟩
        have HB6 := Lib.hid (below2 HB5.out hb6)
        clear hb6
        go_wp2
        go_ret
        exact ⟨rfl, HB6.out⟩
    · have e0 : bs (fmtSet ts) = { data := #[] } := by
        cases hs : svB ts
        · rw [fmtSet_no hs]; rfl
        · have : ts = [] := Classical.byContradiction fun h => hv ⟨hs, h⟩
          rw [this]; rfl
      rw [e0] at CI CS
      clear hv e0
      go_wp2_with fail
      refine (CI.out _ HI1.out).mono ?_
      rintro r w2 ⟨rfl, hb2⟩
      have HB2 := Lib.hid (below2 HB1.out hb2)
      have HI2 := Lib.hid (HI1.out.below hb2)
      clear hb2
      go_wp2_with fail
      refine (CS.out _ HI2.out).mono ?_
      rintro r w3 ⟨rfl, hb3⟩
      have HB3 := Lib.hid (below2 HB2.out hb3)
      have HI3 := Lib.hid (HI2.out.below hb3)
      clear hb3
      go_wp2_with fail
      refine (CS.out _ HI3.out).mono ?_
      rintro r w4 ⟨rfl, hb4⟩
      have HB4 := Lib.hid (below2 HB3.out hb4)
      clear hb4
      go_wp2
      go_ret
      exact ⟨rfl, HB4.out⟩
end Go.Proofs.YtnfflpaipabbmaaDoor
