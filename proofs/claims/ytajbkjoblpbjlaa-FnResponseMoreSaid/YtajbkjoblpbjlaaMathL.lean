/-
  Plain words on responses: the least number that a growing function does not raise.
-/
import Derived.Test.YtajbkjoblpbjlaaMathR
namespace Go.Proofs.Ytajbkjoblpbjlaa
def lfixN (f : Int → Int) : Nat → Int → Option Int
  | 0, _ => none
  | k + 1, a => if f a ≤ a then some a else lfixN f k (a + 1)
/-- The least x from a to m that f does not raise. -/
def lfix (f : Int → Int) (a m : Int) : Option Int := lfixN f (m + 1 - a).toNat a
theorem lfixN_none {f : Int → Int} : ∀ (k : Nat) (a : Int), (∀ x, a ≤ x → x < a + k → x < f x) → lfixN f k a = none := by
  intro k
  induction k with
  | zero => intro a _; rfl
  | succ k ih =>
    intro a h
    have := h a (by omega) (by omega)
    show (if f a ≤ a then some a else lfixN f k (a + 1)) = none
    rw [if_neg (by omega)]
    exact ih (a + 1) fun x h1 h2 => h x (by omega) (by omega)
theorem lfixN_some {f : Int → Int} {w : Int} : ∀ (k : Nat) (a : Int), a ≤ w → w < a + k → f w ≤ w → (∀ x, a ≤ x → x < w → x < f x) → lfixN f k a = some w := by
  intro k
  induction k with
  | zero => intro a h1 h2; omega
  | succ k ih =>
    intro a h1 h2 h3 h
    show (if f a ≤ a then some a else lfixN f k (a + 1)) = some w
    by_cases e : a = w
    · subst e
      rw [if_pos h3]
    · have := h a (by omega) (by omega)
      rw [if_neg (by omega)]
      exact ih (a + 1) (by omega) (by omega) h3 fun x h1 h2 => h x (by omega) (by omega)
theorem lfix_none {f : Int → Int} {a m : Int} (h : ∀ x, a ≤ x → x ≤ m → x < f x) : lfix f a m = none := lfixN_none _ _ fun x h1 h2 => h x h1 (by omega)
theorem lfix_some {f : Int → Int} {a m w : Int} (h1 : a ≤ w) (h2 : w ≤ m) (h3 : f w ≤ w) (h : ∀ x, a ≤ x → x < w → x < f x) : lfix f a m = some w := lfixN_some _ _ h1 (by omega) h3 h
theorem lfixN_out {f : Int → Int} {w : Int} : ∀ (k : Nat) (a : Int), lfixN f k a = some w → a ≤ w ∧ w < a + k ∧ f w ≤ w ∧ ∀ x, a ≤ x → x < w → x < f x := by
  intro k
  induction k with
  | zero => intro a h; cases h
  | succ k ih =>
    intro a h
    have h' : (if f a ≤ a then some a else lfixN f k (a + 1)) = some w := h
    by_cases e : f a ≤ a
    · rw [if_pos e] at h'
      injection h' with h'
      subst h'
      exact ⟨by omega, by omega, e, fun x h1 h2 => by omega⟩
    · rw [if_neg e] at h'
      obtain ⟨i1, i2, i3, i4⟩ := ih (a + 1) h'
      refine ⟨by omega, by omega, i3, fun x h1 h2 => ?_⟩
      by_cases hx : x = a
      · subst hx; omega
      · exact i4 x (by omega) h2
theorem lfix_out {f : Int → Int} {a m w : Int} (h : lfix f a m = some w) : a ≤ w ∧ w ≤ m ∧ f w ≤ w ∧ ∀ x, a ≤ x → x < w → x < f x := by
  obtain ⟨h1, h2, h3, h4⟩ := lfixN_out _ _ h
  exact ⟨h1, by omega, h3, h4⟩
theorem lfixN_le {f : Int → Int} {x : Int} : ∀ (k : Nat) (a : Int), a ≤ x → x < a + k → f x ≤ x → ∃ y, lfixN f k a = some y ∧ y ≤ x := by
  intro k
  induction k with
  | zero => intro a h1 h2; omega
  | succ k ih =>
    intro a h1 h2 h3
    show ∃ y, (if f a ≤ a then some a else lfixN f k (a + 1)) = some y ∧ y ≤ x
    by_cases e : f a ≤ a
    · rw [if_pos e]
      exact ⟨a, rfl, h1⟩
    · rw [if_neg e]
      have : a ≠ x := by intro h; subst h; exact e h3
      exact ih (a + 1) (by omega) (by omega) h3
theorem lfix_le {f : Int → Int} {a m x : Int} (h1 : a ≤ x) (h2 : x ≤ m) (h3 : f x ≤ x) : ∃ y, lfix f a m = some y ∧ y ≤ x := lfixN_le _ _ h1 (by omega) h3
/-- f grows from a on. -/
def Up (f : Int → Int) (a : Int) : Prop := a ≤ f a ∧ ∀ x y, a ≤ x → x ≤ y → f x ≤ f y
theorem lfix_fix {f : Int → Int} {a m w : Int} (hu : Up f a) (h : lfix f a m = some w) : f w = w := by
  obtain ⟨h1, h2, h3, h4⟩ := lfix_out h
  by_cases e : w = a
  · subst e
    have := hu.1
    omega
  · have := h4 (w - 1) (by omega) (by omega)
    have := hu.2 (w - 1) w (by omega) (by omega)
    omega
/-- What holds while the search climbs. -/
def Climb (f : Int → Int) (a w : Int) : Prop := a ≤ w ∧ w ≤ f w ∧ ∀ x, a ≤ x → x < w → x < f x
theorem Climb.start {f : Int → Int} {a : Int} (hu : Up f a) : Climb f a a := ⟨by omega, hu.1, fun x h1 h2 => by omega⟩
theorem Climb.step {f : Int → Int} {a w : Int} (hu : Up f a) (h : Climb f a w) (hne : ¬ f w = w) : Climb f a (f w) ∧ w < f w := by
  obtain ⟨h1, h2, h3⟩ := h
  refine ⟨⟨by omega, hu.2 w (f w) h1 h2, fun x g1 g2 => ?_⟩, by omega⟩
  by_cases e : x < w
  · exact h3 x g1 e
  · have := hu.2 w x h1 (by omega)
    omega
theorem Climb.found {f : Int → Int} {a w m : Int} (h : Climb f a w) (he : f w = w) (hm : w ≤ m) : lfix f a m = some w := lfix_some h.1 hm (by omega) h.2.2
theorem Climb.gone {f : Int → Int} {a w m : Int} (h : Climb f a w) (hm : m < w) : lfix f a m = none := lfix_none fun x h1 h2 => h.2.2 x h1 (by omega)
/-- The search's two results. -/
def ansN (o : Option Int) : Int := o.getD 0
def ansB (o : Option Int) : Bool := o.isSome
/-- A sum over tasks. -/
def dsum (g : Tk → Int) (a : Int) (ts : List Tk) : Int := ts.foldl (fun s t => s + g t) a
theorem dsum_nil (g : Tk → Int) (a : Int) : dsum g a [] = a := rfl
theorem dsum_snoc (g : Tk → Int) (a : Int) (ts : List Tk) (t : Tk) : dsum g a (ts ++ [t]) = dsum g a ts + g t := by unfold dsum; rw [List.foldl_append]; rfl
theorem dsum_take {g : Tk → Int} {a : Int} {ts : List Tk} {k : Nat} {t : Tk} (h : ts[k]? = some t) : dsum g a (ts.take (k + 1)) = dsum g a (ts.take k) + g t := by
  rw [List.take_add_one, h]
  exact dsum_snoc g a _ t
theorem dsum_cons (g : Tk → Int) (a : Int) (t : Tk) (ts : List Tk) : dsum g a (t :: ts) = dsum g (a + g t) ts := rfl
theorem dsum_shift (g : Tk → Int) (ts : List Tk) : ∀ a b : Int, dsum g (a + b) ts = a + dsum g b ts := by
  induction ts with
  | nil => intro a b; rfl
  | cons t ts ih => intro a b; rw [dsum_cons, dsum_cons, Int.add_assoc, ih]
theorem dsum_le {g g' : Tk → Int} {ts : List Tk} (h : ∀ t ∈ ts, g t ≤ g' t) : ∀ a, dsum g a ts ≤ dsum g' a ts := by
  induction ts with
  | nil => intro a; exact Int.le_refl _
  | cons t ts ih =>
    intro a
    have h1 := h t (by simp)
    have i := ih (fun x hx => h x (by simp [hx])) (a + g t)
    rw [dsum_cons, dsum_cons]
    have e1 := dsum_shift g' ts (g' t - g t) (a + g t)
    rw [show g' t - g t + (a + g t) = a + g' t by omega] at e1
    omega
theorem dsum_bd {g : Tk → Int} {ts : List Tk} {B : Int} (h : ∀ t ∈ ts, 0 ≤ g t ∧ g t ≤ B) : ∀ a, a ≤ dsum g a ts ∧ dsum g a ts ≤ a + ts.length * B := by
  induction ts with
  | nil => intro a; rw [dsum_nil]; simp
  | cons t ts ih =>
    intro a
    have h1 := h t (by simp)
    have i := ih (fun x hx => h x (by simp [hx])) (a + g t)
    rw [dsum_cons, List.length_cons, Int.natCast_add, Int.add_mul]
    simp only [Int.natCast_one, Int.one_mul]
    omega
theorem jobs_mono {e x y : Int} (h1 : 1 ≤ e) (hxy : x ≤ y) : (x + e - 1) / e ≤ (y + e - 1) / e := Int.ediv_le_ediv (by omega) (by omega)
theorem dm_mono {t : Tk} (ht : t.ok = true) {x y : Int} (hi : Bool) (hxy : x ≤ y) : t.dm x hi ≤ t.dm y hi := by
  have h := tvB_true ht
  have hn := need_pos (l := t.low) (h := t.high) hi (by omega) (by omega)
  unfold Tk.dm
  rw [dmd_need, dmd_need]
  exact Int.mul_le_mul_of_nonneg_right (jobs_mono (by omega) hxy) (by omega)
theorem dm_bd {t : Tk} (ht : t.ok = true) {x : Int} (hi : Bool) (h0 : 0 ≤ x) (h1 : x ≤ 1000000000) : 0 ≤ t.dm x hi ∧ t.dm x hi ≤ 1000000020 * 20 := by
  have h := tvB_true ht
  exact dmd_bd hi (by omega) (by omega) (by omega) (by omega) (by omega) h0 h1
theorem dm_pos {t : Tk} (ht : t.ok = true) {x : Int} (hi : Bool) (h0 : 1 ≤ x) : t.low ≤ t.dm x hi ∧ 1 ≤ t.dm x hi := by
  have h := tvB_true ht
  have hn := need_pos (l := t.low) (h := t.high) hi (by omega) (by omega)
  have hj := jobs_pos (e := t.every) (x := x) (by omega) (by omega) h0
  unfold Tk.dm
  rw [dmd_need]
  have : 1 * need t.low t.high hi ≤ (x + t.every - 1) / t.every * need t.low t.high hi := Int.mul_le_mul_of_nonneg_right hj (by omega)
  omega
/-- The function that ResponseLow climbs. -/
def fLow (ts : List Tk) (at_ : Nat) (low : Int) (w : Int) : Int := dsum (fun t => t.dm w false) low (ts.take at_)
def fSw (ts : List Tk) (at_ : Nat) (low high : Int) (w : Int) : Int := dsum (fun t => if t.crit = true then t.dm w true else t.dm low false) high (ts.take at_)
def fBusy (ts : List Tk) (w : Int) : Int := dsum (fun t => t.dm w false) 0 ts
theorem svB_mem {ts : List Tk} (h : svB ts = true) {t : Tk} (ht : t ∈ ts) : t.ok = true := by
  obtain ⟨k, hk, rfl⟩ := List.mem_iff_getElem.1 ht
  exact svB_ok h (List.getElem?_eq_getElem hk)
theorem fLow_up {ts : List Tk} (hv : svB ts = true) (k : Nat) {low : Int} (h0 : 0 ≤ low) (h1 : low ≤ 1000000000) : Up (fLow ts k low) low := by
  refine ⟨(dsum_bd (fun t ht => dm_bd (svB_mem hv (List.mem_of_mem_take ht)) false h0 h1) low).1, fun x y _ hxy => ?_⟩
  exact dsum_le (fun t ht => dm_mono (svB_mem hv (List.mem_of_mem_take ht)) false hxy) low
theorem fSw_bd {ts : List Tk} (hv : svB ts = true) (k : Nat) {low w : Int} (l0 : 0 ≤ low) (l1 : low ≤ 1000000000) (w0 : 0 ≤ w) (w1 : w ≤ 1000000000) :
    ∀ t ∈ ts.take k, 0 ≤ (if t.crit = true then t.dm w true else t.dm low false) ∧ (if t.crit = true then t.dm w true else t.dm low false) ≤ 1000000020 * 20 := by
  intro t ht
  have ho := svB_mem hv (List.mem_of_mem_take ht)
  by_cases hc : t.crit = true
  · rw [if_pos hc]; exact dm_bd ho true w0 w1
  · rw [if_neg hc]; exact dm_bd ho false l0 l1
theorem fSw_up {ts : List Tk} (hv : svB ts = true) (k : Nat) {low high : Int} (l0 : 0 ≤ low) (l1 : low ≤ 1000000000) (h0 : 0 ≤ high) (h1 : high ≤ 1000000000) : Up (fSw ts k low high) high := by
  refine ⟨(dsum_bd (fSw_bd hv k l0 l1 h0 h1) high).1, fun x y _ hxy => dsum_le (fun t ht => ?_) high⟩
  have ho := svB_mem hv (List.mem_of_mem_take ht)
  by_cases hc : t.crit = true
  · rw [if_pos hc, if_pos hc]; exact dm_mono ho true hxy
  · rw [if_neg hc, if_neg hc]; exact Int.le_refl _
theorem fBusy_up {ts : List Tk} (hv : svB ts = true) (hn : ts ≠ []) : Up (fBusy ts) 1 := by
  refine ⟨?_, fun x y _ hxy => dsum_le (fun t ht => dm_mono (svB_mem hv ht) false hxy) 0⟩
  match ts, hn with
  | t :: us, _ =>
    have h1 := dm_pos (svB_mem hv (List.mem_cons_self)) false (x := 1) (by omega)
    have h2 := (dsum_bd (fun u hu => dm_bd (svB_mem hv (List.mem_cons_of_mem t hu)) false (x := 1) (by omega) (by omega)) (0 + t.dm 1 false)).1
    show 1 ≤ dsum _ 0 (t :: us)
    rw [dsum_cons]
    omega
/-- Whether there is a place 'at' in a valid list. -/
def plB (ts : List Tk) (at_ : Int) : Bool := svB ts && (decide (0 ≤ at_) && decide (at_ < ts.length))
theorem plB_at {ts : List Tk} {a : Int} (h : plB ts a = true) : svB ts = true ∧ ∃ (k : Nat) (t : Tk), a = k ∧ k < ts.length ∧ ts[k]? = some t ∧ t.ok = true := by
  unfold plB at h
  simp only [Bool.and_eq_true, decide_eq_true_iff] at h
  obtain ⟨h1, h2, h3⟩ := h
  obtain ⟨k, rfl⟩ := Int.eq_ofNat_of_zero_le h2
  obtain ⟨t, ht⟩ := at_of (ts := ts) (k := k) (by omega)
  exact ⟨h1, k, t, rfl, by omega, ht, svB_ok h1 ht⟩
theorem plB_of {ts : List Tk} {k : Nat} (h : svB ts = true) (hk : k < ts.length) : plB ts k = true := by
  unfold plB
  rw [h]
  simp
  exact hk
/-- What ResponseLow answers. -/
def rspL (ts : List Tk) (at_ : Int) : Option Int :=
  if plB ts at_ = true then (match ts[at_.toNat]? with | some t => lfix (fLow ts at_.toNat t.low) t.low t.due | none => none) else none
theorem rspL_no {ts : List Tk} {a : Int} (h : plB ts a = false) : rspL ts a = none := if_neg (by simp [h])
theorem rspL_yes {ts : List Tk} {k : Nat} {t : Tk} (h : plB ts k = true) (ht : ts[k]? = some t) : rspL ts k = lfix (fLow ts k t.low) t.low t.due := by
  unfold rspL
  rw [if_pos h]
  simp only [Int.toNat_natCast, ht]
/-- What ResponseSwitch answers. -/
def rspS (ts : List Tk) (at_ : Int) : Option Int :=
  match rspL ts at_, ts[at_.toNat]? with
  | some low, some t => if t.crit = true then lfix (fSw ts at_.toNat low t.high) t.high t.due else none
  | _, _ => none
theorem rspL_in {ts : List Tk} {a r : Int} (h : rspL ts a = some r) : plB ts a = true := by
  cases hp : plB ts a
  · rw [rspL_no hp] at h; cases h
  · rfl
/-- What BusyLow answers; H the time after which all begin together again. -/
def bsyL (ts : List Tk) (H : Int) : Option Int := if svB ts = true ∧ ts ≠ [] then lfix (fBusy ts) 1 H else none
end Go.Proofs.Ytajbkjoblpbjlaa
