/-
  The library's insertion sort, on tasks: it gives what srt gives.
-/
import Derived.Test.YtbcionecepdkfaaMathC
import Derived.Sort.WalkA
import Derived.Lib.Small
namespace Go.Proofs.Ytbcionecepdkfaa
open Go.Sort
instance : Inhabited Tk := ⟨⟨0, 0, 0, 0, false⟩⟩
theorem bang_of {l : List Tk} {d : Array Tk} {k : Nat} {t : Tk} (h : d.toList = l) (ht : l[k]? = some t) : d[k]! = t := by
  subst h
  rw [Array.getElem?_toList] at ht
  rw [getElem!_def, ht]
theorem swp_toList (d : Array Tk) (i j : Nat) : (swp d i j).toList = (d.toList.set i d[j]!).set j d[i]! := by
  unfold swp
  rw [Array.toList_setIfInBounds, Array.toList_setIfInBounds]
/-- Two neighbours exchanged. -/
theorem set_two (a : List Tk) (x y : Tk) (r : List Tk) : ((a ++ y :: x :: r).set (a.length + 1) y).set a.length x = a ++ x :: y :: r := by
  simp
theorem insInner_srt (S rest : List Tk) (x : Tk) : ∀ (j : Nat) (d : Array Tk), j ≤ S.length → d.toList = S.take j ++ x :: (S.drop j ++ rest) → (∀ (i : Nat) (y : Tk), j ≤ i → S[i]? = some y → tLt x y = true) →
    (insInner tLt 0 j d).toList = insT x S ++ rest := by
  intro j
  induction j with
  | zero =>
    intro d _ hd hA
    rw [insInner_stop tLt 0 0 d (.inl (Nat.le_refl _)), hd, insT_at (j := 0) (Nat.zero_le _) hA (fun y h => absurd h (by omega))]
    simp
  | succ j ih =>
    intro d hj hd hA
    obtain ⟨y, hy⟩ : ∃ y, S[j]? = some y := at_of (by omega)
    have htl : (S.take j).length = j := by rw [List.length_take]; omega
    have ht1 : S.take (j + 1) = S.take j ++ [y] := by rw [List.take_add_one, hy]; rfl
    have hd2 : S.drop j = y :: S.drop (j + 1) := by
      have h2 := (List.getElem?_eq_some_iff.1 hy)
      rw [List.drop_eq_getElem_cons h2.1, h2.2]
    have hd' : d.toList = S.take j ++ y :: x :: (S.drop (j + 1) ++ rest) := by rw [hd, ht1]; simp
    have e1 : d[j + 1]! = x := bang_of hd' (by rw [List.getElem?_append_right (by omega), htl, show j + 1 - j = 1 by omega]; rfl)
    have e0 : d[j]! = y := bang_of hd' (by rw [List.getElem?_append_right (by omega), htl, show j - j = 0 by omega]; rfl)
    cases hc : tLt x y
    · rw [insInner_stop tLt 0 (j + 1) d (.inr (by rw [Nat.add_sub_cancel, e1, e0]; exact hc)), hd, insT_at (j := j + 1) hj hA (fun y' _ hy' => by
        rw [Nat.add_sub_cancel, hy] at hy'
        injection hy' with hy'
        exact hy' ▸ hc)]
      simp
    · rw [insInner_go tLt 0 (j + 1) d (by omega) (by rw [Nat.add_sub_cancel, e1, e0]; exact hc), Nat.add_sub_cancel]
      refine ih (swp d (j + 1) j) (by omega) ?_ (fun i z hi hz => by
        by_cases e : i = j
        · subst e
          rw [hy] at hz
          injection hz with hz
          exact hz ▸ hc
        · exact hA i z (by omega) hz)
      rw [swp_toList, e0, e1, hd', hd2]
      have := set_two (S.take j) x y (S.drop (j + 1) ++ rest)
      rw [htl] at this
      rw [this]
      simp
theorem insOuter_srt (ts : List Tk) : ∀ (m i : Nat) (d : Array Tk), i + m = ts.length → d.toList = srt (ts.take i) ++ ts.drop i → (insOuter tLt 0 ts.length i d).toList = srt ts := by
  intro m
  induction m with
  | zero =>
    intro i d hi hd
    rw [insOuter_stop tLt 0 ts.length i d (by omega), hd, List.take_of_length_le (by omega), List.drop_eq_nil_of_le (by omega), List.append_nil]
  | succ m ih =>
    intro i d hi hd
    rw [insOuter_go tLt 0 ts.length i d (by omega)]
    refine ih (i + 1) _ (by omega) ?_
    obtain ⟨x, hx⟩ : ∃ x, ts[i]? = some x := at_of (by omega)
    have hlen : (srt (ts.take i)).length = i := by rw [srt_len, List.length_take]; omega
    have hdr : ts.drop i = x :: ts.drop (i + 1) := by
      have h2 := (List.getElem?_eq_some_iff.1 hx)
      rw [List.drop_eq_getElem_cons h2.1, h2.2]
    rw [srt_snoc hx]
    refine insInner_srt (srt (ts.take i)) (ts.drop (i + 1)) x i d (by omega) ?_ (fun q y hq hy => absurd (lt_of_at hy) (by omega))
    have hdn : (srt (ts.take i)).drop i = [] := List.drop_eq_nil_of_le (by omega)
    rw [hd, hdr, List.take_of_length_le (l := srt (ts.take i)) (by omega), hdn]
    simp
theorem insertion_srt (ts : List Tk) (d : Array Tk) (hd : d.toList = ts) (hts : 0 < ts.length) : (insertionSort tLt d 0 ts.length).toList = srt ts := by
  unfold insertionSort
  obtain ⟨x, hx⟩ : ∃ x, ts[0]? = some x := at_of (by omega)
  refine insOuter_srt ts (ts.length - 1) (0 + 1) d (by omega) ?_
  rw [srt_snoc hx, hd]
  have h0 : srt (ts.take 0) = [] := by simp [srt]
  rw [h0]
  have : insT x [] = [x] := rfl
  rw [this]
  cases ts with
  | nil => simp at hx
  | cons y ys =>
    simp at hx
    subst hx
    rfl
/-- What the order's function answers: cmp.Or of two cmp.Compare. -/
def cfT (x y : Tk) : Int := if Lib.compareInt x.due y.due ≠ 0 then Lib.compareInt x.due y.due else Lib.compareInt x.every y.every
theorem cfT_lt (x y : Tk) : decide (cfT x y < 0) = tLt x y := by
  unfold cfT tLt Lib.compareInt
  rw [Bool.eq_iff_iff]
  simp only [decide_eq_true_iff]
  repeat' split
  all_goals omega
end Go.Proofs.Ytbcionecepdkfaa
