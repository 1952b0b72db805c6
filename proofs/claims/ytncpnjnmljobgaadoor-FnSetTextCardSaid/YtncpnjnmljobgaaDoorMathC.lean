/-
  Plain words on critical tasks alone, and on sorted tasks.
-/
import Derived.Test.YtncpnjnmljobgaaDoorMath
namespace Go.Proofs.YtncpnjnmljobgaaDoor
set_option maxRecDepth 100000
def critT (t : Tk) : Tk := ⟨t.high, t.high, t.due, t.every, t.crit⟩
def critL (ts : List Tk) : List Tk := (ts.filter (·.crit)).map critT
theorem critL_snoc {ts : List Tk} {k : Nat} {t : Tk} (h : ts[k]? = some t) : critL (ts.take (k + 1)) = critL (ts.take k) ++ (if t.crit then [critT t] else []) := by
  unfold critL
  rw [List.take_add_one, h, List.filter_append, List.map_append]
  cases hc : t.crit <;> simp [hc]
theorem critL_yes {ts : List Tk} {k : Nat} {t : Tk} (h : ts[k]? = some t) (hc : t.crit = true) : critL (ts.take (k + 1)) = critL (ts.take k) ++ [critT t] := by rw [critL_snoc h, hc]; rfl
theorem critL_no {ts : List Tk} {k : Nat} {t : Tk} (h : ts[k]? = some t) (hc : t.crit = false) : critL (ts.take (k + 1)) = critL (ts.take k) := by rw [critL_snoc h, hc]; simp
theorem critL_len (ts : List Tk) : (critL ts).length ≤ ts.length := by unfold critL; rw [List.length_map]; exact List.length_filter_le _ _
theorem critL_take_len (ts : List Tk) (k : Nat) : (critL (ts.take k)).length ≤ (critL ts).length := by
  have : ts = ts.take k ++ ts.drop k := (List.take_append_drop k ts).symm
  conv => rhs; rw [this]
  unfold critL
  rw [List.filter_append, List.map_append, List.length_append]
  omega
theorem critL_mem {ts : List Tk} {t : Tk} (h : t ∈ critL ts) : ∃ u ∈ ts, u.crit = true ∧ t = critT u := by
  unfold critL at h
  obtain ⟨u, hu, rfl⟩ := List.mem_map.1 h
  obtain ⟨h1, h2⟩ := List.mem_filter.1 hu
  exact ⟨u, h1, h2, rfl⟩
theorem critT_ok {t : Tk} (h : t.ok = true) : (critT t).ok = true := by
  have := tvB_true h
  exact tvB_mk ⟨by show 1 ≤ t.high; omega, Int.le_refl _, this.2.2.1, this.2.2.2.1, this.2.2.2.2.1, .inr rfl⟩
theorem svB_critL {ts : List Tk} (h : svB ts = true) : svB (critL ts) = true := by
  have hl := svB_len h
  have hc := critL_len ts
  refine svB_of (by omega) fun k t ht => ?_
  obtain ⟨u, hu, _, rfl⟩ := critL_mem (List.mem_of_getElem? ht)
  obtain ⟨j, hj, rfl⟩ := List.mem_iff_getElem.1 hu
  exact critT_ok (svB_ok h (List.getElem?_eq_getElem hj))
theorem critL_twice (ts : List Tk) : critL (critL ts) = critL ts := by
  unfold critL
  rw [List.filter_map, List.map_map]
  have e1 : ((fun x : Tk => x.crit) ∘ critT) = fun x => x.crit := rfl
  have e2 : critT ∘ critT = critT := rfl
  rw [e1, e2, List.filter_filter]
  simp
/-- What CriticalOf answers. -/
def crA (ts : List Tk) : List Tk := if svB ts = true then critL ts else []
theorem crA_yes {ts : List Tk} (h : svB ts = true) : crA ts = critL ts := if_pos h
theorem crA_no {ts : List Tk} (h : svB ts = false) : crA ts = [] := if_neg (by simp [h])
/-- How many are critical. -/
def ncrit (ts : List Tk) : Nat := (ts.filter (·.crit)).length
theorem critL_count (ts : List Tk) : (critL ts).length = ncrit ts := by unfold critL ncrit; rw [List.length_map]
theorem ncrit_take {ts : List Tk} {k : Nat} {t : Tk} (h : ts[k]? = some t) : ncrit (ts.take (k + 1)) = ncrit (ts.take k) + (if t.crit = true then 1 else 0) := by
  rw [← critL_count, ← critL_count, critL_snoc h]
  cases hc : t.crit <;> simp
/-- The order: due first, then the period. -/
def tLt (a b : Tk) : Bool := decide (a.due < b.due ∨ (a.due = b.due ∧ a.every < b.every))
theorem tLt_iff {a b : Tk} : tLt a b = true ↔ (a.due < b.due ∨ (a.due = b.due ∧ a.every < b.every)) := by unfold tLt; exact decide_eq_true_iff
theorem tLt_not {a b : Tk} : tLt a b = false ↔ ¬ (a.due < b.due ∨ (a.due = b.due ∧ a.every < b.every)) := by unfold tLt; exact decide_eq_false_iff_not
/-- x put in from behind: in front of all that are greater. -/
def insR (x : Tk) : List Tk → List Tk
  | [] => [x]
  | y :: ys => if tLt x y then y :: insR x ys else x :: y :: ys
def insT (x : Tk) (l : List Tk) : List Tk := (insR x l.reverse).reverse
theorem insR_at (x : Tk) : ∀ (l : List Tk) (m : Nat), m ≤ l.length → (∀ (i : Nat) (y : Tk), i < m → l[i]? = some y → tLt x y = true) → (∀ y, l[m]? = some y → tLt x y = false) → insR x l = l.take m ++ x :: l.drop m := by
  intro l
  induction l with
  | nil => intro m hm _ _; simp [insR]
  | cons y ys ih =>
    intro m hm h1 h2
    cases m with
    | zero =>
      have := h2 y (by simp)
      simp [insR, this]
    | succ m =>
      have h0 := h1 0 y (by omega) (by simp)
      have hm' : m ≤ ys.length := by simpa using hm
      have i := ih m hm' (fun i z hi hz => h1 (i + 1) z (by omega) (by simpa using hz)) (fun z hz => h2 z (by simpa using hz))
      simp [insR, h0, i]
/-- x stands at place j: all from j on are greater, the one ahead of j is not. -/
theorem insT_at {x : Tk} {l : List Tk} {j : Nat} (hj : j ≤ l.length) (h1 : ∀ (i : Nat) (y : Tk), j ≤ i → l[i]? = some y → tLt x y = true) (h2 : ∀ y, 0 < j → l[j - 1]? = some y → tLt x y = false) : insT x l = l.take j ++ x :: l.drop j := by
  have e := insR_at x l.reverse (l.length - j) (by simp) (fun i y hi hy => by
      rw [List.getElem?_reverse (by omega)] at hy
      exact h1 _ y (by omega) hy) (fun y hy => by
      have hlt : l.length - j < l.length := by have := lt_of_at hy; simpa using this
      rw [List.getElem?_reverse hlt] at hy
      exact h2 y (by omega) (by rw [← hy]; congr 1; omega))
  unfold insT
  rw [e, List.reverse_append, List.reverse_cons, List.drop_reverse, List.take_reverse]
  simp only [List.reverse_reverse, List.append_assoc, List.singleton_append]
  rw [show l.length - (l.length - j) = j by omega]
/-- There is such a place. -/
theorem insT_place (x : Tk) (l : List Tk) : ∃ j, j ≤ l.length ∧ (∀ (i : Nat) (y : Tk), j ≤ i → l[i]? = some y → tLt x y = true) ∧ (∀ y, 0 < j → l[j - 1]? = some y → tLt x y = false) := by
  have step : ∀ k, k ≤ l.length → (∀ (i : Nat) (y : Tk), k ≤ i → l[i]? = some y → tLt x y = true) → ∃ j, j ≤ l.length ∧ (∀ (i : Nat) (y : Tk), j ≤ i → l[i]? = some y → tLt x y = true) ∧ (∀ y, 0 < j → l[j - 1]? = some y → tLt x y = false) := by
    intro k
    induction k with
    | zero => intro h0 h; exact ⟨0, h0, h, fun y hy => absurd hy (by omega)⟩
    | succ k ih =>
      intro hk h
      obtain ⟨z, hz⟩ := at_of (ts := l) (k := k) (by omega)
      cases hx : tLt x z
      · exact ⟨k + 1, hk, h, fun y _ hy => by
          rw [show k + 1 - 1 = k by omega, hz] at hy
          injection hy with hy
          exact hy ▸ hx⟩
      · refine ih (by omega) fun i y hi hy => ?_
        by_cases e : i = k
        · subst e
          rw [hz] at hy
          injection hy with hy
          exact hy ▸ hx
        · exact h i y (by omega) hy
  exact step l.length (Nat.le_refl _) fun i y hi hy => absurd (lt_of_at hy) (by omega)
def srt (ts : List Tk) : List Tk := ts.foldl (fun out x => insT x out) []
/-- What SortDue answers. -/
def srA (ts : List Tk) : List Tk := if svB ts = true then srt ts else []
theorem srA_yes {ts : List Tk} (h : svB ts = true) : srA ts = srt ts := if_pos h
theorem srA_no {ts : List Tk} (h : svB ts = false) : srA ts = [] := if_neg (by simp [h])
theorem srt_snoc {ts : List Tk} {k : Nat} {t : Tk} (h : ts[k]? = some t) : srt (ts.take (k + 1)) = insT t (srt (ts.take k)) := by
  unfold srt
  rw [List.take_add_one, h, List.foldl_append]
  rfl
theorem insT_perm (x : Tk) (l : List Tk) : (insT x l).Perm (x :: l) := by
  obtain ⟨j, hj, h1, h2⟩ := insT_place x l
  rw [insT_at hj h1 h2]
  refine List.perm_middle.trans ?_
  rw [List.take_append_drop]
theorem srt_perm_aux (ts : List Tk) : ∀ out, (ts.foldl (fun out x => insT x out) out).Perm (ts ++ out) := by
  induction ts with
  | nil => intro out; exact List.Perm.refl _
  | cons t ts ih =>
    intro out
    rw [List.foldl_cons]
    refine (ih (insT t out)).trans ?_
    exact ((List.Perm.refl ts).append (insT_perm t out)).trans (List.perm_middle.trans (List.Perm.refl _))
theorem srt_perm (ts : List Tk) : (srt ts).Perm ts := by
  have := srt_perm_aux ts []
  rwa [List.append_nil] at this
theorem srt_len (ts : List Tk) : (srt ts).length = ts.length := (srt_perm ts).length_eq
theorem svB_perm {ts us : List Tk} (h : ts.Perm us) (hv : svB us = true) : svB ts = true := by
  have hl := svB_len hv
  refine svB_of (by rw [h.length_eq]; exact hl) fun k t ht => ?_
  obtain ⟨j, hj, e⟩ := List.mem_iff_getElem.1 (h.mem_iff.1 (List.mem_of_getElem? ht))
  exact svB_ok hv (k := j) (by rw [List.getElem?_eq_getElem hj, e])
/-- In order: none is less than one ahead of it. -/
def Sorted (l : List Tk) : Prop := ∀ (i j : Nat) (a b : Tk), i < j → l[i]? = some a → l[j]? = some b → tLt b a = false
theorem tLt_tr {a b c : Tk} (h : tLt a b = true) (k : tLt c b = false) : tLt c a = false := by
  rw [tLt_iff] at h
  rw [tLt_not] at k ⊢
  omega
theorem tLt_as {a b : Tk} (h : tLt a b = true) : tLt b a = false := by
  rw [tLt_iff] at h
  rw [tLt_not]
  omega
theorem tLt_nt {a b c : Tk} (h : tLt b a = false) (k : tLt c b = false) : tLt c a = false := by
  rw [tLt_not] at h k ⊢
  omega
theorem insT_sorted {x : Tk} {l : List Tk} (hs : Sorted l) : Sorted (insT x l) := by
  obtain ⟨j, hj, h1, h2⟩ := insT_place x l
  rw [insT_at hj h1 h2]
  have hlen : (l.take j).length = j := by rw [List.length_take]; omega
  have get : ∀ i, (l.take j ++ x :: l.drop j)[i]? = if i < j then l[i]? else if i = j then some x else l[i - 1]? := by
    intro i
    by_cases c1 : i < j
    · rw [if_pos c1, List.getElem?_append_left (by omega), List.getElem?_take, if_pos c1]
    · rw [if_neg c1, List.getElem?_append_right (by omega), hlen]
      by_cases c2 : i = j
      · subst c2; simp
      · rw [if_neg c2, show i - j = (i - 1 - j) + 1 by omega, List.getElem?_cons_succ, List.getElem?_drop]
        congr 1; omega
  have low : ∀ (i : Nat) (a : Tk), i < j → l[i]? = some a → tLt x a = false := by
    intro i a hi ha
    obtain ⟨z, hz⟩ := at_of (ts := l) (k := j - 1) (by omega)
    have hz2 := h2 z (by omega) hz
    by_cases c : i = j - 1
    · subst c
      rw [ha] at hz
      injection hz with hz
      exact hz ▸ hz2
    · exact tLt_nt (hs i (j - 1) a z (by omega) ha hz) hz2
  intro i k a b hik ha hb
  rw [get] at ha hb
  by_cases c1 : i < j
  · rw [if_pos c1] at ha
    by_cases c2 : k < j
    · rw [if_pos c2] at hb
      exact hs i k a b hik ha hb
    · rw [if_neg c2] at hb
      by_cases c3 : k = j
      · rw [if_pos c3] at hb
        injection hb with hb
        exact hb ▸ low i a c1 ha
      · rw [if_neg c3] at hb
        exact hs i (k - 1) a b (by omega) ha hb
  · rw [if_neg c1] at ha
    rw [if_neg (by omega), if_neg (by omega)] at hb
    by_cases c3 : i = j
    · rw [if_pos c3] at ha
      injection ha with ha
      exact ha ▸ tLt_as (h1 (k - 1) b (by omega) hb)
    · rw [if_neg c3] at ha
      exact hs (i - 1) (k - 1) a b (by omega) ha hb
theorem srt_sorted_aux (ts : List Tk) : ∀ out, Sorted out → Sorted (ts.foldl (fun out x => insT x out) out) := by
  induction ts with
  | nil => intro out h; exact h
  | cons t ts ih => intro out h; exact ih _ (insT_sorted h)
theorem srt_sorted (ts : List Tk) : Sorted (srt ts) := srt_sorted_aux ts [] fun i j a b _ ha => by simp at ha
theorem insT_last {x : Tk} {l : List Tk} (h : ∀ (i : Nat) (a : Tk), l[i]? = some a → tLt x a = false) : insT x l = l ++ [x] := by
  rw [insT_at (j := l.length) (Nat.le_refl _) (fun i y hi hy => absurd (lt_of_at hy) (by omega)) (fun y _ hy => h _ y hy)]
  simp
theorem srt_id_aux (us : List Tk) : ∀ ts, Sorted (ts ++ us) → us.foldl (fun out x => insT x out) ts = ts ++ us := by
  induction us with
  | nil => intro ts _; simp
  | cons u us ih =>
    intro ts h
    rw [List.foldl_cons, insT_last (fun i a ha => h i ts.length a u (lt_of_at ha) (by rw [List.getElem?_append_left (lt_of_at ha)]; exact ha) (by simp)), ih (ts ++ [u]) (by simpa using h)]
    simp
/-- Sorted tasks stay. -/
theorem srt_id {ts : List Tk} (h : Sorted ts) : srt ts = ts := srt_id_aux ts [] (by simpa using h)
/-- Those of one key stay in their order. -/
theorem insT_key (x : Tk) (l : List Tk) (d e : Int) : (insT x l).filter (fun t => decide (t.due = d) && decide (t.every = e)) = (l ++ [x]).filter (fun t => decide (t.due = d) && decide (t.every = e)) := by
  obtain ⟨j, hj, h1, h2⟩ := insT_place x l
  rw [insT_at hj h1 h2]
  have hl : l = l.take j ++ l.drop j := (List.take_append_drop j l).symm
  conv => rhs; rw [hl]
  rw [List.filter_append, List.filter_append, List.filter_append, List.filter_cons, List.append_assoc]
  congr 1
  by_cases hk : (decide (x.due = d) && decide (x.every = e)) = true
  · have hnone : (l.drop j).filter (fun t => decide (t.due = d) && decide (t.every = e)) = [] := by
      rw [List.filter_eq_nil_iff]
      intro y hy hc
      obtain ⟨i, hi, rfl⟩ := List.mem_iff_getElem.1 hy
      have := h1 (j + i) _ (by omega) (by rw [← List.getElem?_drop, List.getElem?_eq_getElem hi])
      rw [tLt_iff] at this
      simp only [Bool.and_eq_true, decide_eq_true_iff] at hk hc
      omega
    rw [if_pos hk, hnone]
    simp only [List.nil_append, List.filter_cons, hk, if_true, List.filter_nil]
  · rw [if_neg hk]
    simp only [List.filter_cons, hk, List.filter_nil]
    simp
theorem srt_key_aux (d e : Int) (ts : List Tk) : ∀ out, (ts.foldl (fun out x => insT x out) out).filter (fun t => decide (t.due = d) && decide (t.every = e)) = (out ++ ts).filter (fun t => decide (t.due = d) && decide (t.every = e)) := by
  induction ts with
  | nil => intro out; simp
  | cons t ts ih =>
    intro out
    rw [List.foldl_cons, ih, List.filter_append, insT_key, ← List.filter_append]
    simp
theorem srt_key (d e : Int) (ts : List Tk) : (srt ts).filter (fun t => decide (t.due = d) && decide (t.every = e)) = ts.filter (fun t => decide (t.due = d) && decide (t.every = e)) := by
  have h := srt_key_aux d e ts []
  rw [List.nil_append] at h
  exact h
end Go.Proofs.YtncpnjnmljobgaaDoor
