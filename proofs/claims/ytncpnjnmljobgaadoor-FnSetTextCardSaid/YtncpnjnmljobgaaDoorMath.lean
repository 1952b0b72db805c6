/-
  Plain words of this part, with no program in sight: a task, a share, what it is to be valid.
-/
namespace Go.Proofs.YtncpnjnmljobgaaDoor
set_option maxRecDepth 100000
/-- A task as five numbers. -/
structure Tk where
  low : Int
  high : Int
  due : Int
  every : Int
  crit : Bool
theorem Tk.ext_ {a b : Tk} (h0 : a.low = b.low) (h1 : a.high = b.high) (h2 : a.due = b.due) (h3 : a.every = b.every) (h4 : a.crit = b.crit) : a = b := by
  cases a; cases b; simp_all
def Tk.eqB (a b : Tk) : Bool := decide (a.low = b.low ∧ a.high = b.high ∧ a.due = b.due ∧ a.every = b.every ∧ a.crit = b.crit)
theorem Tk.eqB_iff (a b : Tk) : a.eqB b = true ↔ a = b := by
  unfold Tk.eqB
  rw [decide_eq_true_iff]
  constructor
  · rintro ⟨h0, h1, h2, h3, h4⟩
    exact Tk.ext_ h0 h1 h2 h3 h4
  · rintro rfl
    exact ⟨rfl, rfl, rfl, rfl, rfl⟩
instance : DecidableEq Tk := fun a b => if h : a.eqB b = true then isTrue ((Tk.eqB_iff a b).1 h) else isFalse (fun e => h ((Tk.eqB_iff a b).2 e))
/-- What TaskValid answers. -/
def tvB (l h d e : Int) (c : Bool) : Bool := decide (1 ≤ l ∧ l ≤ h ∧ h ≤ d ∧ d ≤ e ∧ e ≤ 20 ∧ (c = true ∨ l = h))
theorem tvB_true {l h d e : Int} {c : Bool} (hv : tvB l h d e c = true) : 1 ≤ l ∧ l ≤ h ∧ h ≤ d ∧ d ≤ e ∧ e ≤ 20 ∧ (c = true ∨ l = h) := of_decide_eq_true hv
theorem tvB_mk {l h d e : Int} {c : Bool} (hv : 1 ≤ l ∧ l ≤ h ∧ h ≤ d ∧ d ≤ e ∧ e ≤ 20 ∧ (c = true ∨ l = h)) : tvB l h d e c = true := decide_eq_true hv
def Tk.ok (t : Tk) : Bool := tvB t.low t.high t.due t.every t.crit
/-- What SetValid answers. -/
def svB (ts : List Tk) : Bool := decide (ts.length ≤ 5) && ts.all Tk.ok
theorem svB_len {ts : List Tk} (h : svB ts = true) : ts.length ≤ 5 := by
  unfold svB at h; simp only [Bool.and_eq_true, decide_eq_true_iff] at h; exact h.1
theorem svB_ok {ts : List Tk} (h : svB ts = true) {k : Nat} {t : Tk} (ht : ts[k]? = some t) : t.ok = true := by
  unfold svB at h
  simp only [Bool.and_eq_true, decide_eq_true_iff, List.all_eq_true] at h
  exact h.2 t (List.mem_of_getElem? ht)
theorem svB_of {ts : List Tk} (h : ts.length ≤ 5) (ha : ∀ (k : Nat) (t : Tk), ts[k]? = some t → t.ok = true) : svB ts = true := by
  unfold svB
  simp only [Bool.and_eq_true, decide_eq_true_iff, List.all_eq_true]
  refine ⟨h, fun t ht => ?_⟩
  obtain ⟨j, hj, e⟩ := List.mem_iff_getElem.1 ht
  exact ha j t (by rw [List.getElem?_eq_getElem hj, e])
theorem svB_not_len {ts : List Tk} (h : 5 < ts.length) : svB ts = false := by
  unfold svB
  rw [Bool.and_eq_false_iff]
  left
  simp; omega
theorem svB_not_ok {ts : List Tk} {k : Nat} {t : Tk} (ht : ts[k]? = some t) (h : t.ok = false) : svB ts = false := by
  unfold svB
  rw [Bool.and_eq_false_iff]
  right
  rw [List.all_eq_false]
  exact ⟨t, List.mem_of_getElem? ht, by simp [h]⟩
theorem all_step {α : Type} {p : α → Prop} {ts : List α} {k : Nat} {t : α} (ht : ts[k]? = some t) (hp : p t) (h : ∀ (j : Nat) (x : α), j < k → ts[j]? = some x → p x) : ∀ (j : Nat) (x : α), j < k + 1 → ts[j]? = some x → p x := by
  intro j x hj hx
  by_cases hjk : j < k
  · exact h j x hjk hx
  · obtain rfl : j = k := by omega
    rw [ht] at hx
    injection hx with hx
    exact hx ▸ hp
theorem at_of {α : Type} {ts : List α} {k : Nat} (h : k < ts.length) : ∃ t, ts[k]? = some t := ⟨_, List.getElem?_eq_getElem h⟩
theorem lt_of_at {α : Type} {ts : List α} {k : Nat} {t : α} (h : ts[k]? = some t) : k < ts.length := (List.getElem?_eq_some_iff.1 h).1
end Go.Proofs.YtncpnjnmljobgaaDoor
