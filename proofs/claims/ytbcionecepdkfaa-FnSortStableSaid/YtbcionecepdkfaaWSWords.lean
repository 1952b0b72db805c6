/-
  Plain words on the shares of drawn tasks.
-/
import Derived.Test.YtbcionecepdkfaaHigh
import Derived.Test.YtbcionecepdkfaaMathH2
namespace Go.Proofs.Ytbcionecepdkfaa
open Go.RowKit
theorem keep4 {f : FuncId} {args : Array Value} {W : World} {v u0 u1 u2 u3 : Value} {b1 b2 : Nat} (h : Calls Try.prog f args W (Ret W v)) (h0 : W.cell? ⟨b1, 0, none⟩ = some u0) (h1 : W.cell? ⟨b1, 1, none⟩ = some u1) (h2 : W.cell? ⟨b2, 0, none⟩ = some u2) (h3 : W.cell? ⟨b2, 1, none⟩ = some u3) :
    Calls Try.prog f args W fun r w' => Ret W v r w' ∧ w'.cell? ⟨b1, 0, none⟩ = some u0 ∧ w'.cell? ⟨b1, 1, none⟩ = some u1 ∧ w'.cell? ⟨b2, 0, none⟩ = some u2 ∧ w'.cell? ⟨b2, 1, none⟩ = some u3 :=
  h.mono fun _ _ hr => ⟨hr, ((bcell hr.2).1 b1 0 (cellLt2 h0)).trans h0, ((bcell hr.2).1 b1 1 (cellLt2 h1)).trans h1, ((bcell hr.2).1 b2 0 (cellLt2 h2)).trans h2, ((bcell hr.2).1 b2 1 (cellLt2 h3)).trans h3⟩
theorem svB_mem' {ts : List Tk} (h : svB ts = true) {t : Tk} (ht : t ∈ ts) : t.ok = true := by
  obtain ⟨k, hk, rfl⟩ := List.mem_iff_getElem.1 ht
  exact svB_ok h (List.getElem?_eq_getElem hk)
theorem hyN_bds' {ts : List Tk} (h : svB ts = true) : 1 ≤ hyN ts ∧ hyN ts ≤ 3200000 := by
  have e : hyN ts = hyl ts := if_pos h
  have hb := hyl_bd h ts.length (Nat.le_refl _)
  have hp := pow_small (svB_len h)
  rw [List.take_of_length_le (Nat.le_refl _)] at hb
  omega
theorem hy_div {ts us : List Tk} (h : svB ts = true) (hs : ∀ t ∈ us, t ∈ ts) : ∀ t ∈ us, t.every ∣ hyN ts := by
  intro t ht
  rw [show hyN ts = hyl ts from if_pos h]
  exact hyl_div (svB_every h) (hs t ht)
theorem su_over {ts : List Tk} (h : svB ts = true) (cr hi : Bool) {L : Int} (hL : 1 ≤ L) (hd : ∀ t ∈ sel cr ts, t.every ∣ L) : suN ts cr hi = rn (over (nd hi) L (sel cr ts)) L ∧ suD ts cr hi = rd (over (nd hi) L (sel cr ts)) L := by
  obtain ⟨e1, e2⟩ := su_yes h cr hi
  rw [e1, e2]
  exact fs_red hL (sel_ok h cr hi) hd
theorem over_bd {ts : List Tk} (h : svB ts = true) (cr hi : Bool) (k : Nat) : 0 ≤ over (nd hi) (hyN ts) (sel cr (ts.take k)) ∧ over (nd hi) (hyN ts) (sel cr (ts.take k)) ≤ 16000000 := by
  have hb := hyN_bds' h
  have ht := take_ok h k
  have hm : ∀ t ∈ sel cr (ts.take k), t ∈ ts := fun t ht => List.mem_of_mem_take (sel_mem ht).1
  have h0 := over_nonneg (f := nd hi) hb.1 (sel_ok ht cr hi)
  have h1 := over_le (f := nd hi) hb.1 (sel_ok ht cr hi) (hy_div h hm)
  have hl := svB_len ht
  have hs := sel_len cr (ts.take k)
  have h2 : ((sel cr (ts.take k)).length : Int) * hyN ts ≤ 5 * hyN ts := Int.mul_le_mul_of_nonneg_right (by omega) (by omega)
  omega
theorem hyp_over {ts : List Tk} (h : svB ts = true) : (∀ k : Nat, 0 ≤ over (nd true) (hyN ts) (sel true (ts.take k)) ∧ over (nd true) (hyN ts) (sel true (ts.take k)) ≤ 16000000) ∧
    (msB (over (nd true) (hyN ts) (sel true ts)) (hyN ts) = true ∧ msN (over (nd true) (hyN ts) (sel true ts)) (hyN ts) = suN ts true true ∧ msD (over (nd true) (hyN ts) (sel true ts)) (hyN ts) = suD ts true true) := by
  refine ⟨over_bd h true true, ?_⟩
  have hb := hyN_bds' h
  have ho := over_bd h true true ts.length
  rw [List.take_of_length_le (Nat.le_refl _)] at ho
  have hm : msB (over (nd true) (hyN ts) (sel true ts)) (hyN ts) = true := decide_eq_true (by omega)
  obtain ⟨_, _, _, _, e1, e2⟩ := ms_true hm
  obtain ⟨f1, f2⟩ := su_over h true true hb.1 (hy_div h fun t ht => (sel_mem ht).1)
  exact ⟨hm, by rw [e1, f1], by rw [e2, f2]⟩
theorem su_sh {ts : List Tk} (h : svB ts = true) (cr hi : Bool) : shB (suN ts cr hi) (suD ts cr hi) = true := by
  obtain ⟨e1, e2⟩ := su_yes h cr hi
  rw [e1, e2]
  have hl := svB_len h
  have hs := sel_len cr ts
  exact fs_sh (by omega) (sel_ok h cr hi)
theorem su_bd {ts : List Tk} (h : svB ts = true) (cr hi : Bool) : 0 ≤ suN ts cr hi ∧ suN ts cr hi ≤ 16000000 ∧ 1 ≤ suD ts cr hi ∧ suD ts cr hi ≤ 3200000 := by
  obtain ⟨e1, e2⟩ := su_yes h cr hi
  rw [e1, e2]
  have hl := svB_len h
  have hs := sel_len cr ts
  exact fsN_bd (by omega) (sel_ok h cr hi)
/-- Low needs are low. -/
theorem su_low {ts : List Tk} (h : svB ts = true) : cmpS (suN ts true false) (suD ts true false) (suN ts true true) (suD ts true true) ≤ 0 := by
  have hb := hyN_bds' h
  have hd := hy_div h (us := sel true ts) fun t ht => (sel_mem ht).1
  obtain ⟨a1, a2⟩ := su_over h true false hb.1 hd
  obtain ⟨b1, b2⟩ := su_over h true true hb.1 hd
  rw [a1, a2, b1, b2]
  refine cmp_over (over_nonneg hb.1 (sel_ok h true false)) hb.1 (over_mono hb.1 (fun t ht => (sel_ok h true true t ht).2.2.1) fun t ht => ?_)
  have := (need_pos (l := t.low) (h := t.high) true (by have := tvB_true (svB_mem' h (sel_mem ht).1); omega) (by have := tvB_true (svB_mem' h (sel_mem ht).1); omega)).2.2
  show need t.low t.high false ≤ need t.low t.high true
  exact this
theorem over_pos {f : Tk → Int} {L : Int} {ts : List Tk} (ho : needOk f ts) (hL : 1 ≤ L) (hd : ∀ t ∈ ts, t.every ∣ L) (hne : ts ≠ []) : 1 ≤ over f L ts := by
  match ts, hne with
  | t :: us, _ =>
    obtain ⟨o1, o2, o3, o4⟩ := ho t (by simp)
    obtain ⟨q, hq⟩ := hd t (by simp)
    have hq' : L / t.every = q := by rw [hq, Int.mul_ediv_cancel_left _ (by omega)]
    have hq1 : 1 ≤ q := by
      refine Classical.byContradiction fun hc => ?_
      have : t.every * q ≤ t.every * 0 := Int.mul_le_mul_of_nonneg_left (by omega) (by omega)
      omega
    have h1 : 1 * 1 ≤ f t * q := Int.mul_le_mul o1 hq1 (by omega) (by omega)
    have h2 := over_nonneg (f := f) hL (ts := us) fun x hx => ho x (by simp [hx])
    rw [over_cons, hq']
    omega
/-- High needs are of critical tasks. -/
theorem su_none {ts : List Tk} (h : svB ts = true) : suN ts true true = 0 ↔ (critL ts).length = 0 := by
  have hb := hyN_bds' h
  have hd := hy_div h (us := sel true ts) fun t ht => (sel_mem ht).1
  obtain ⟨b1, b2⟩ := su_over h true true hb.1 hd
  have e : (critL ts).length = (sel true ts).length := by
    unfold critL sel
    rw [List.length_map]
    congr 2
    funext t
    cases t.crit <;> rfl
  rw [b1, e]
  constructor
  · intro h0
    refine Classical.byContradiction fun hc => ?_
    have h1 := over_pos (f := nd true) (sel_ok h true true) hb.1 hd (fun e => hc (by rw [e]; rfl))
    have h2 := rn_back (x := over (nd true) (hyN ts) (sel true ts)) (y := hyN ts) (by omega) (by omega)
    rw [h0] at h2
    omega
  · intro h0
    rw [List.length_eq_zero_iff.1 h0, over_nil]
    unfold rn
    exact Int.zero_ediv _
/-- One task is no more than all. -/
theorem su_one {t : Tk} (h : svB [t] = true) (cr hi : Bool) : cmpS (suN [t] cr hi) (suD [t] cr hi) 1 1 ≤ 0 := by
  have ho := nd_ok (svB_ok h (k := 0) rfl) hi
  have hd : ∀ u ∈ sel cr [t], u.every ∣ t.every := fun u hu => by
    have := (sel_mem hu).1
    simp at this
    rw [this]
    exact Int.dvd_refl _
  obtain ⟨b1, b2⟩ := su_over h cr hi ho.2.2.1 hd
  have hS0 := over_nonneg (f := nd hi) ho.2.2.1 (sel_ok h cr hi)
  have hS1 : over (nd hi) t.every (sel cr [t]) ≤ t.every := by
    have hq : t.every / t.every = 1 := Int.ediv_self (by omega)
    unfold sel
    by_cases hc : (t.crit == cr) = true
    · rw [List.filter_cons, if_pos hc, List.filter_nil, over_cons, over_nil, hq]
      omega
    · rw [List.filter_cons, if_neg hc, List.filter_nil, over_nil]
      omega
  have e1 : rn t.every t.every = 1 := by
    have := rn_mul (g := t.every) (x := 1) (y := 1) (by omega) (by omega) (by omega)
    rw [Int.mul_one] at this
    rw [this]
    decide
  have e2 : rd t.every t.every = 1 := by
    have := rd_mul (g := t.every) (x := 1) (y := 1) (by omega) (by omega) (by omega)
    rw [Int.mul_one] at this
    rw [this]
    decide
  have := cmp_over (A := over (nd hi) t.every (sel cr [t])) (B := t.every) hS0 ho.2.2.1 hS1
  rw [e1, e2] at this
  rw [b1, b2]
  exact this
theorem su_one_pos {t : Tk} (h : svB [t] = true) : 1 ≤ suN [t] t.crit false := by
  have ho := nd_ok (svB_ok h (k := 0) rfl) false
  have hd : ∀ u ∈ sel t.crit [t], u.every ∣ t.every := fun u hu => by
    have := (sel_mem hu).1
    simp at this
    rw [this]
    exact Int.dvd_refl _
  obtain ⟨b1, b2⟩ := su_over h t.crit false ho.2.2.1 hd
  have h1 := over_pos (f := nd false) (sel_ok h t.crit false) ho.2.2.1 hd (by unfold sel; simp)
  have h2 := rn_back (x := over (nd false) t.every (sel t.crit [t])) (y := t.every) (by omega) (by omega)
  have h3 := rn_bd (a := over (nd false) t.every (sel t.crit [t])) (b := t.every) (by omega) ho.2.2.1
  rw [b1]
  refine Classical.byContradiction fun hc => ?_
  have : rn (over (nd false) t.every (sel t.crit [t])) t.every = 0 := by omega
  rw [this] at h2
  omega
/-- Shares add up. -/
theorem su_parts {ts : List Tk} (h : svB ts = true) (cr hi : Bool) (k : Nat) : adB (suN (ts.take k) cr hi) (suD (ts.take k) cr hi) (suN (ts.drop k) cr hi) (suD (ts.drop k) cr hi) = true ∧
    adN (suN (ts.take k) cr hi) (suD (ts.take k) cr hi) (suN (ts.drop k) cr hi) (suD (ts.drop k) cr hi) = suN ts cr hi ∧ adD (suN (ts.take k) cr hi) (suD (ts.take k) cr hi) (suN (ts.drop k) cr hi) (suD (ts.drop k) cr hi) = suD ts cr hi := by
  have hb := hyN_bds' h
  have h1 := take_ok h k
  have h2 : svB (ts.drop k) = true := by
    have hl := svB_len h
    refine svB_of (by rw [List.length_drop]; omega) fun j t ht => ?_
    rw [List.getElem?_drop] at ht
    exact svB_ok h ht
  have d0 := hy_div h (us := sel cr ts) fun t ht => (sel_mem ht).1
  have d1 := hy_div h (us := sel cr (ts.take k)) fun t ht => List.mem_of_mem_take (sel_mem ht).1
  have d2 := hy_div h (us := sel cr (ts.drop k)) fun t ht => List.mem_of_mem_drop (sel_mem ht).1
  obtain ⟨a1, a2⟩ := su_over h1 cr hi hb.1 d1
  obtain ⟨b1, b2⟩ := su_over h2 cr hi hb.1 d2
  obtain ⟨c1, c2⟩ := su_over h cr hi hb.1 d0
  have n1 := over_nonneg (f := nd hi) hb.1 (sel_ok h1 cr hi)
  have n2 := over_nonneg (f := nd hi) hb.1 (sel_ok h2 cr hi)
  have e : over (nd hi) (hyN ts) (sel cr ts) = over (nd hi) (hyN ts) (sel cr (ts.take k)) + over (nd hi) (hyN ts) (sel cr (ts.drop k)) := by
    rw [← over_append]
    congr 1
    unfold sel
    rw [← List.filter_append, List.take_append_drop]
  obtain ⟨m1, m2⟩ := sm_over n1 n2 hb.1
  have s1 := su_sh h1 cr hi
  have s2 := su_sh h2 cr hi
  have bd := su_bd h cr hi
  rw [← e, ← c1, ← a1, ← a2, ← b1, ← b2] at m1
  rw [← e, ← c2, ← a1, ← a2, ← b1, ← b2] at m2
  rcases ad_ways (suN (ts.take k) cr hi) (suD (ts.take k) cr hi) (suN (ts.drop k) cr hi) (suD (ts.drop k) cr hi) with ⟨x, _⟩ | ⟨_, x, _⟩ | ⟨_, _, x, _⟩ | ⟨_, _, _, x, _⟩ | ⟨_, _, _, _, y0, y1, y2⟩
  · rw [s1] at x; cases x
  · rw [s2] at x; cases x
  · rw [m1] at x; omega
  · rw [m2] at x; omega
  · exact ⟨y0, y1.trans m1, y2.trans m2⟩
end Go.Proofs.Ytbcionecepdkfaa
