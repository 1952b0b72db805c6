/-
  What the program's parser of tasks finds in a task's text.
-/
import Derived.Test.YtncpnjnmljobgaaDoorPSpec
import Derived.Test.YtncpnjnmljobgaaDoorPImpl
namespace Go.Proofs.YtncpnjnmljobgaaDoor
set_option maxRecDepth 100000
open Go.RowKit
theorem cut_hit {c : UInt8} {t a b : List UInt8} (h : ∀ x ∈ a, x ≠ c) : Lib.cut (a ++ ((c :: t) ++ b)) (c :: t) = (a, b, true) := by
  have hi : Lib.index (a ++ ((c :: t) ++ b)) (c :: t) = a.length := by
    refine Lib.index_first (by simp) ?_ ?_
    · unfold Lib.occAt
      rw [List.drop_left]
      exact List.isPrefixOf_iff_prefix.2 (List.prefix_append _ _)
    · intro j hj
      cases ho : Lib.occAt (a ++ ((c :: t) ++ b)) (c :: t) j
      · rfl
      · have h1 := Lib.occAt_head rfl ho
        rw [List.getElem?_append_left hj] at h1
        exact absurd rfl (h c (List.mem_of_getElem? h1))
  unfold Lib.cut
  rw [hi, if_pos (by omega)]
  congr 1
  · simp
  · congr 1
    have e : ((a.length : Int)).toNat + (c :: t).length = (a ++ (c :: t)).length := by simp
    rw [e, ← List.append_assoc, List.drop_left]
theorem cut_miss {c : UInt8} {t a : List UInt8} (h : ∀ x ∈ a, x ≠ c) : Lib.cut a (c :: t) = (a, [], false) := by
  have hi : Lib.index a (c :: t) = -1 := by
    refine Lib.index_none fun j _ => ?_
    cases ho : Lib.occAt a (c :: t) j
    · rfl
    · have h1 := Lib.occAt_head rfl ho
      exact absurd rfl (h c (List.mem_of_getElem? h1))
  unfold Lib.cut
  rw [hi, if_neg (by omega)]
theorem cut_len (l m : List UInt8) : (Lib.cut l m).1.length ≤ l.length ∧ (Lib.cut l m).2.1.length ≤ l.length := by
  unfold Lib.cut
  split
  · simp only [List.length_take, List.length_drop]; omega
  · simp
theorem cut_small {l m x y : List UInt8} {b : Bool} (h : Lib.cut l m = (x, y, b)) : x.length ≤ l.length ∧ y.length ≤ l.length := by
  have := cut_len l m
  rw [h] at this
  exact this
theorem aV_dec {n : Int} (h0 : 0 ≤ n) (h1 : n ≤ 99) : aV (dec n) = n := by
  rcases dec_two h0 h1 with ⟨x, e, hx, hn⟩ | ⟨x, y, e, hx, hy, hn⟩
  · rw [e]
    have hpm : Lib.parseMag [x] = .ok n.toNat := by
      unfold Lib.parseMag
      rw [if_neg (by simp)]
      unfold Lib.parseUint10
      rw [if_pos (by omega), if_neg (by omega), if_neg (by omega)]
      unfold Lib.parseUint10
      congr 1
      omega
    unfold aV Lib.atoiAll
    simp only [hpm, if_neg (show ¬(x.toNat = 43 ∨ x.toNat = 45) by omega), if_neg (show ¬(¬x.toNat = 45 ∧ 9223372036854775808 ≤ n.toNat) by omega), if_neg (show ¬(x.toNat = 45 ∧ 9223372036854775808 < n.toNat) by omega), if_neg (show ¬x.toNat = 45 by omega)]
    omega
  · rw [e]
    have hpm : Lib.parseMag [x, y] = .ok n.toNat := by
      unfold Lib.parseMag
      rw [if_neg (by simp)]
      unfold Lib.parseUint10
      rw [if_pos (by omega), if_neg (by omega), if_neg (by omega)]
      unfold Lib.parseUint10
      rw [if_pos (by omega), if_neg (by omega), if_neg (by omega)]
      unfold Lib.parseUint10
      congr 1
      omega
    unfold aV Lib.atoiAll
    simp only [hpm, if_neg (show ¬(x.toNat = 43 ∨ x.toNat = 45) by omega), if_neg (show ¬(¬x.toNat = 45 ∧ 9223372036854775808 ≤ n.toNat) by omega), if_neg (show ¬(x.toNat = 45 ∧ 9223372036854775808 < n.toNat) by omega), if_neg (show ¬x.toNat = 45 by omega)]
    omega
theorem need_cut {u : Tk} (hu : u.ok = true) : Lib.cut (needL u.low u.high u.crit) [47] = (dec u.low, if u.crit = true then dec u.high else [], u.crit) := by
  obtain ⟨⟨a0, a1⟩, _⟩ := ok_bds hu
  have ha : ∀ x ∈ dec u.low, x ≠ 47 := fun x hx => dg_ne_of (dec_dg2 a0 a1 x hx) (.inl (by decide))
  unfold needL
  cases hc : u.crit
  · rw [if_neg (by simp), if_neg (by simp), List.append_nil]
    exact cut_miss ha
  · rw [if_pos rfl, if_pos rfl]
    exact cut_hit (t := []) ha
theorem rest_cut {u : Tk} (hu : u.ok = true) : Lib.cut (dec u.every ++ (if u.due < u.every then tBy ++ dec u.due else [])) tBy = (dec u.every, if u.due < u.every then dec u.due else [], decide (u.due < u.every)) := by
  obtain ⟨_, _, _, ⟨a0, a1⟩⟩ := ok_bds hu
  have ha : ∀ x ∈ dec u.every, x ≠ 32 := fun x hx => dg_ne_of (dec_dg2 a0 a1 x hx) (.inl (by decide))
  by_cases h : u.due < u.every
  · rw [if_pos h, if_pos h, decide_eq_true h]
    exact cut_hit (t := [98, 121, 32]) ha
  · rw [if_neg h, if_neg h, decide_eq_false h, List.append_nil]
    exact cut_miss ha
theorem task_cut {u : Tk} (hu : u.ok = true) : Lib.cut (fmtT u) tEvery = (needL u.low u.high u.crit, dec u.every ++ (if u.due < u.every then tBy ++ dec u.due else []), true) := by
  rw [fmtT_need hu]
  exact cut_hit (t := [101, 118, 101, 114, 121, 32]) (need_ne hu (.inl (by decide)))
theorem cand1 {u : Tk} {l n1 r1 : List UInt8} {i1 : Bool} (hu : u.ok = true) (hl : fmtT u = l) (h1 : Lib.cut l tEvery = (n1, r1, i1)) : i1 = true := by
  rw [← hl, task_cut hu] at h1
  injection h1 with _ h1
  injection h1 with _ h1
  exact h1.symm
theorem cand {u : Tk} {l n1 r1 lo hi ev du : List UInt8} {i1 i2 i3 : Bool} (hu : u.ok = true) (hl : fmtT u = l) (h1 : Lib.cut l tEvery = (n1, r1, i1)) (h2 : Lib.cut n1 [47] = (lo, hi, i2)) (h3 : Lib.cut r1 tBy = (ev, du, i3)) :
    u = ⟨aV lo, if i2 = true then aV hi else aV lo, if i3 = true then aV du else aV ev, aV ev, i2⟩ := by
  obtain ⟨⟨a0, a1⟩, ⟨b0, b1⟩, ⟨c0, c1⟩, ⟨d0, d1⟩⟩ := ok_bds hu
  obtain ⟨_, _, _, v4, _, v6⟩ := tvB_true hu
  rw [← hl, task_cut hu] at h1
  injection h1 with h1 h1'
  injection h1' with h1' _
  subst h1 h1'
  rw [need_cut hu] at h2
  injection h2 with h2 h2'
  injection h2' with h2' h2''
  subst h2 h2' h2''
  rw [rest_cut hu] at h3
  injection h3 with h3 h3'
  injection h3' with h3' h3''
  subst h3 h3' h3''
  refine Tk.ext_ (aV_dec a0 a1).symm ?_ ?_ (aV_dec d0 d1).symm rfl
  · show u.high = if u.crit = true then aV (if u.crit = true then dec u.high else []) else aV (dec u.low)
    cases hc : u.crit
    · rw [if_neg (by simp), aV_dec a0 a1]
      rcases v6 with v6 | v6
      · rw [hc] at v6; cases v6
      · exact v6.symm
    · rw [if_pos rfl, if_pos rfl, aV_dec b0 b1]
  · show u.due = if decide (u.due < u.every) = true then aV (if u.due < u.every then dec u.due else []) else aV (dec u.every)
    by_cases h : u.due < u.every
    · rw [if_pos (decide_eq_true h), if_pos h, aV_dec c0 c1]
    · rw [if_neg (by simp [h]), aV_dec d0 d1]
      omega
/-- Two tasks with one text are one task. -/
theorem fmtT_one {u t : Tk} (hu : u.ok = true) (ht : t.ok = true) (h : fmtT u = fmtT t) : u = t := by
  rcases h1 : Lib.cut (fmtT t) tEvery with ⟨n1, r1, i1⟩
  rcases h2 : Lib.cut n1 [47] with ⟨lo, hi, i2⟩
  rcases h3 : Lib.cut r1 tBy with ⟨ev, du, i3⟩
  rw [cand hu h h1 h2 h3, ← cand ht rfl h1 h2 h3]
/-- One answer alone is right. -/
theorem IsP.same {l : List UInt8} {t t' : Tk} {b b' : Bool} (h : IsP l t b) (h' : IsP l t' b') : t = t' ∧ b = b' := by
  rcases h with ⟨rfl, h1, h2⟩ | ⟨rfl, rfl, h2⟩ <;> rcases h' with ⟨rfl, h1', h2'⟩ | ⟨rfl, rfl, h2'⟩
  · exact ⟨fmtT_one h1 h1' (h2.trans h2'.symm), rfl⟩
  · exact absurd h2 (h2' t h1)
  · exact absurd h2' (h2 t' h1')
  · exact ⟨rfl, rfl⟩
theorem c_SCut' (s sep : ByteArray) (x y : List UInt8) (z : Bool) (hs : s.size ≤ 2097152) (h : Lib.cut s.data.toList sep.data.toList = (x, y, z)) (w : World) (hE : Env w) : Calls Tryd.prog 31 #[.string s, .string sep] w (Ret w (.tuple #[.string (bs x), .string (bs y), .bool z])) := by
  have hc := c_SCut s sep w hE hs
  rw [h] at hc
  exact hc
theorem c_Atoi' (s : ByteArray) (v : Int) (w : World) (hE : Env w) (hs : s.size ≤ 2097152) (hv : aV s.data.toList = v) : Calls Tryd.prog 32 #[.string s] w fun r w' => ∃ e, r = .returned (.tuple #[.int .i64 v, e]) ∧ Below w.heap.size w w' := by
  have hc := c_Atoi s w hE hs
  unfold AtoiC at hc
  rw [hv] at hc
  exact hc
end Go.Proofs.YtncpnjnmljobgaaDoor
