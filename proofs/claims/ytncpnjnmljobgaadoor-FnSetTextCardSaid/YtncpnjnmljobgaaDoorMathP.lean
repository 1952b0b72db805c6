/-
  Plain words on parsing: pieces of a text, what a text of a task holds.
-/
import Derived.Test.YtncpnjnmljobgaaDoorMathC
import Derived.Test.YtncpnjnmljobgaaDoorMathT
import Derived.Lib.IndexMore
import Derived.Lib.CutLaws
import Derived.Lib.AtoiAll
namespace Go.Proofs.YtncpnjnmljobgaaDoor
set_option maxRecDepth 100000
/-- A digit. -/
def isDg (c : UInt8) : Prop := 48 ≤ c.toNat ∧ c.toNat ≤ 57
theorem dg_of {d : Nat} (h : d ≤ 9) : isDg (UInt8.ofNat (48 + d)) ∧ (UInt8.ofNat (48 + d)).toNat = 48 + d := by
  have e : (UInt8.ofNat (48 + d)).toNat = 48 + d := by simp; omega
  exact ⟨⟨by omega, by omega⟩, e⟩
/-- Numerals of at most two digits. -/
theorem dec_two {n : Int} (h0 : 0 ≤ n) (h1 : n ≤ 99) : (∃ x : UInt8, dec n = [x] ∧ (x.toNat : Int) = 48 + n ∧ n ≤ 9) ∨ (∃ x y : UInt8, dec n = [x, y] ∧ (x.toNat : Int) = 48 + n / 10 ∧ (y.toNat : Int) = 48 + n % 10 ∧ 10 ≤ n) := by
  by_cases h : 9 < n
  · right
    refine ⟨UInt8.ofNat (48 + (n / 10).toNat), UInt8.ofNat (48 + (n % 10).toNat), ?_, ?_, ?_, by omega⟩
    · rw [dec_step h, dec_small (by omega)]; rfl
    · rw [(dg_of (d := (n / 10).toNat) (by omega)).2]; omega
    · rw [(dg_of (d := (n % 10).toNat) (by omega)).2]; omega
  · left
    refine ⟨UInt8.ofNat (48 + n.toNat), dec_small h, ?_, by omega⟩
    rw [(dg_of (d := n.toNat) (by omega)).2]; omega
theorem dec_dg2 {n : Int} (h0 : 0 ≤ n) (h1 : n ≤ 99) : ∀ c ∈ dec n, isDg c := by
  intro c hc
  unfold isDg
  rcases dec_two h0 h1 with ⟨x, e, hx, _⟩ | ⟨x, y, e, hx, hy, _⟩
  · rw [e] at hc
    have : c = x := by simpa using hc
    subst this
    omega
  · rw [e] at hc
    have : c = x ∨ c = y := by simpa using hc
    rcases this with rfl | rfl <;> omega
/-- Pieces of a text, cut at every byte c. -/
def cutG (c : UInt8) (cur : List UInt8) : List UInt8 → List (List UInt8)
  | [] => [cur]
  | x :: xs => if x = c then cur :: cutG c [] xs else cutG c (cur ++ [x]) xs
def cutL (c : UInt8) (l : List UInt8) : List (List UInt8) := cutG c [] l
theorem cutG_ne (c : UInt8) (cur l : List UInt8) : cutG c cur l ≠ [] := by
  induction l generalizing cur with
  | nil => simp [cutG]
  | cons x xs ih =>
    unfold cutG
    by_cases h : x = c
    · rw [if_pos h]; simp
    · rw [if_neg h]; exact ih _
theorem cutG_app (c : UInt8) (cur a b : List UInt8) (h : ∀ x ∈ a, x ≠ c) : cutG c cur (a ++ b) = cutG c (cur ++ a) b := by
  induction a generalizing cur with
  | nil => simp
  | cons x a ih =>
    have hx := h x (by simp)
    rw [List.cons_append, cutG, if_neg hx, ih _ fun y hy => h y (by simp [hy])]
    simp
theorem cutL_hit {c : UInt8} {a : List UInt8} (b : List UInt8) (h : ∀ x ∈ a, x ≠ c) : cutL c (a ++ c :: b) = a :: cutL c b := by
  unfold cutL
  rw [cutG_app c [] a _ h, List.nil_append, cutG, if_pos rfl]
theorem cutL_miss {c : UInt8} {a : List UInt8} (h : ∀ x ∈ a, x ≠ c) : cutL c a = [a] := by
  have := cutG_app c [] a [] h
  rw [List.append_nil, List.nil_append] at this
  exact this
/-- The needs of a task. -/
def needL (l h : Int) (c : Bool) : List UInt8 := dec l ++ (if c = true then 47 :: dec h else [])
theorem dg_ne_of {c : UInt8} (h : isDg c) {k : UInt8} (hk : k.toNat < 48 ∨ 57 < k.toNat) : c ≠ k := by
  intro e
  subst e
  unfold isDg at h
  omega
/-- What a valid task's numbers are. -/
theorem ok_bds {t : Tk} (h : t.ok = true) : (0 ≤ t.low ∧ t.low ≤ 99) ∧ (0 ≤ t.high ∧ t.high ≤ 99) ∧ (0 ≤ t.due ∧ t.due ≤ 99) ∧ (0 ≤ t.every ∧ t.every ≤ 99) := by
  obtain ⟨v1, v2, v3, v4, v5, v6⟩ := tvB_true h
  exact ⟨⟨by omega, by omega⟩, ⟨by omega, by omega⟩, ⟨by omega, by omega⟩, ⟨by omega, by omega⟩⟩
theorem need_mem {t : Tk} (h : t.ok = true) : ∀ x ∈ needL t.low t.high t.crit, isDg x ∨ x = 47 := by
  obtain ⟨⟨a0, a1⟩, ⟨b0, b1⟩, _, _⟩ := ok_bds h
  intro x hx
  unfold needL at hx
  rcases List.mem_append.1 hx with hx | hx
  · exact .inl (dec_dg2 a0 a1 x hx)
  · cases hc : t.crit
    · rw [hc] at hx; simp at hx
    · rw [hc, if_pos rfl] at hx
      rcases List.mem_cons.1 hx with hx | hx
      · exact .inr hx
      · exact .inl (dec_dg2 b0 b1 x hx)
theorem need_ne {t : Tk} (h : t.ok = true) {k : UInt8} (hk : k.toNat < 47 ∨ 57 < k.toNat) : ∀ x ∈ needL t.low t.high t.crit, x ≠ k := by
  intro x hx
  rcases need_mem h x hx with hd | rfl
  · exact dg_ne_of hd (by omega)
  · intro e
    subst e
    revert hk
    decide
theorem fmtT_need {t : Tk} (h : t.ok = true) : fmtT t = needL t.low t.high t.crit ++ (tEvery ++ (dec t.every ++ (if t.due < t.every then tBy ++ dec t.due else []))) := by
  rw [fmtT_yes h]
  unfold fmtL needL
  rw [List.append_assoc]
/-- The reference's pieces of a task's text. -/
theorem cut_task {t : Tk} (h : t.ok = true) : cutL 32 (fmtT t) = if t.due < t.every then [needL t.low t.high t.crit, [101, 118, 101, 114, 121], dec t.every, [98, 121], dec t.due] else [needL t.low t.high t.crit, [101, 118, 101, 114, 121], dec t.every] := by
  obtain ⟨_, _, ⟨d0, d1⟩, ⟨e0, e1⟩⟩ := ok_bds h
  have hd : ∀ x ∈ dec t.due, x ≠ 32 := fun x hx => dg_ne_of (dec_dg2 d0 d1 x hx) (.inl (by decide))
  have he : ∀ x ∈ dec t.every, x ≠ 32 := fun x hx => dg_ne_of (dec_dg2 e0 e1 x hx) (.inl (by decide))
  have ev : ∀ r : List UInt8, tEvery ++ r = 32 :: ([101, 118, 101, 114, 121] ++ 32 :: r) := fun r => rfl
  rw [fmtT_need h, ev, cutL_hit _ (need_ne h (.inl (by decide))), cutL_hit _ (by decide)]
  by_cases hde : t.due < t.every
  · rw [if_pos hde, if_pos hde, show dec t.every ++ (tBy ++ dec t.due) = dec t.every ++ 32 :: ([98, 121] ++ 32 :: dec t.due) from rfl, cutL_hit _ he, cutL_hit _ (by decide), cutL_miss hd]
  · rw [if_neg hde, if_neg hde, List.append_nil, cutL_miss he]
theorem cut_need {t : Tk} (h : t.ok = true) : cutL 47 (needL t.low t.high t.crit) = if t.crit = true then [dec t.low, dec t.high] else [dec t.low] := by
  obtain ⟨⟨a0, a1⟩, ⟨b0, b1⟩, _, _⟩ := ok_bds h
  have ha : ∀ x ∈ dec t.low, x ≠ 47 := fun x hx => dg_ne_of (dec_dg2 a0 a1 x hx) (.inl (by decide))
  have hb : ∀ x ∈ dec t.high, x ≠ 47 := fun x hx => dg_ne_of (dec_dg2 b0 b1 x hx) (.inl (by decide))
  unfold needL
  cases hc : t.crit
  · rw [if_neg (by simp), if_neg (by simp), List.append_nil, cutL_miss ha]
  · rw [if_pos rfl, if_pos rfl, cutL_hit _ ha, cutL_miss hb]
end Go.Proofs.YtncpnjnmljobgaaDoor
