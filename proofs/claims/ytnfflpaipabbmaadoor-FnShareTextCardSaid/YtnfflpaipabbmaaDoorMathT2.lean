/-
  Plain words on texts of shares: which bytes they hold; two shares of one text are one.
-/
import Derived.Test.YtnfflpaipabbmaaDoorMathT
import Derived.Test.YtnfflpaipabbmaaDoorMathB
import Derived.Test.YtnfflpaipabbmaaDoorTextS
namespace Go.Proofs.YtnfflpaipabbmaaDoor
set_option maxRecDepth 100000
/-- A digit. -/
def isDg (c : UInt8) : Prop := 48 ≤ c.toNat ∧ c.toNat ≤ 57
theorem dg_of {d : Nat} (h : d ≤ 9) : isDg (UInt8.ofNat (48 + d)) ∧ (UInt8.ofNat (48 + d)).toNat = 48 + d := by
  have e : (UInt8.ofNat (48 + d)).toNat = 48 + d := by simp; omega
  exact ⟨⟨by omega, by omega⟩, e⟩
theorem decDigits_dg : ∀ (k u : Nat), u < 10 ^ (k + 1) → ∀ c ∈ Lib.decDigits u, isDg c := by
  intro k
  induction k with
  | zero =>
    intro u hu c hc
    rw [Lib.decDigits_one (by simpa using hu)] at hc
    have : c = UInt8.ofNat (48 + u) := by simpa using hc
    subst this
    have h9 : u < 10 := by simpa using hu
    exact (dg_of (d := u) (by omega)).1
  | succ k ih =>
    intro u hu c hc
    by_cases h : u < 10
    · rw [Lib.decDigits_one h] at hc
      have : c = UInt8.ofNat (48 + u) := by simpa using hc
      subst this
      exact (dg_of (by omega)).1
    · rw [Lib.decDigits, dif_neg h] at hc
      rcases List.mem_append.1 hc with hc | hc
      · exact ih (u / 10) (by rw [Nat.pow_succ] at hu; omega) c hc
      · have : c = UInt8.ofNat (48 + u % 10) := by simpa using hc
        subst this
        exact (dg_of (by omega)).1
theorem dec_dg {n : Int} (h : n ≤ 4000000000) : ∀ c ∈ dec n, isDg c := decDigits_dg 9 n.toNat (by simp; omega)
/-- The number that digits spell. -/
def valL (l : List UInt8) : Nat := l.foldl (fun a c => a * 10 + (c.toNat - 48)) 0
theorem valL_snoc (l : List UInt8) (c : UInt8) : valL (l ++ [c]) = valL l * 10 + (c.toNat - 48) := by
  unfold valL
  rw [List.foldl_append]
  rfl
theorem decDigits_val : ∀ (k u : Nat), u < 10 ^ (k + 1) → valL (Lib.decDigits u) = u := by
  intro k
  induction k with
  | zero =>
    intro u hu
    have h : u < 10 := by simpa using hu
    rw [Lib.decDigits_one h]
    unfold valL
    have := (dg_of (d := u) (by omega)).2
    simp only [List.foldl_cons, List.foldl_nil, this]
    omega
  | succ k ih =>
    intro u hu
    by_cases h : u < 10
    · rw [Lib.decDigits_one h]
      unfold valL
      have := (dg_of (d := u) (by omega)).2
      simp only [List.foldl_cons, List.foldl_nil, this]
      omega
    · rw [Lib.decDigits, dif_neg h, valL_snoc, ih (u / 10) (by rw [Nat.pow_succ] at hu; omega), (dg_of (d := u % 10) (by omega)).2]
      omega
theorem dec_val {n : Int} (h0 : 0 ≤ n) (h : n ≤ 4000000000) : (valL (dec n) : Int) = n := by
  have := decDigits_val 9 n.toNat (by simp; omega)
  unfold dec
  rw [this]
  omega
theorem dg_ne {c : UInt8} (h : isDg c) : c ≠ 47 := by
  intro e
  subst e
  unfold isDg at h
  revert h
  decide
/-- What stands ahead of the first slash. -/
theorem cut_slash {a b : List UInt8} (h : ∀ c ∈ a, isDg c) : (a ++ 47 :: b).takeWhile (· != 47) = a ∧ (a ++ 47 :: b).dropWhile (· != 47) = 47 :: b := by
  induction a with
  | nil => simp
  | cons x a ih =>
    have hx := dg_ne (h x (by simp))
    have := ih fun c hc => h c (by simp [hc])
    simp [hx, this]
theorem cut_none {a : List UInt8} (h : ∀ c ∈ a, isDg c) : a.takeWhile (· != 47) = a ∧ a.dropWhile (· != 47) = [] := by
  induction a with
  | nil => simp
  | cons x a ih =>
    have hx := dg_ne (h x (by simp))
    have := ih fun c hc => h c (by simp [hc])
    simp [hx, this]
/-- Two shares of one text are one. -/
theorem fmtS_inj {a b c d : Int} (h1 : shB a b = true) (h2 : shB c d = true) (h : fmtS a b = fmtS c d) : a = c ∧ b = d := by
  obtain ⟨a0, a1, b0, b1, _, _⟩ := shB_msB h1
  obtain ⟨c0, c1, d0, d1, _, _⟩ := shB_msB h2
  have da := dec_dg (n := a) (by omega)
  have dc := dec_dg (n := c) (by omega)
  have va := dec_val a0 (n := a) (by omega)
  have vc := dec_val c0 (n := c) (by omega)
  have vb := dec_val (n := b) (by omega) (by omega)
  have vd := dec_val (n := d) (by omega) (by omega)
  by_cases hb : b = 1 <;> by_cases hd : d = 1
  · rw [fmtS_one h1 hb, fmtS_one h2 hd] at h
    rw [h] at va
    exact ⟨by omega, by omega⟩
  · rw [fmtS_one h1 hb, fmtS_more h2 hd] at h
    have := (cut_none da).2
    rw [h, (cut_slash dc).2] at this
    cases this
  · rw [fmtS_more h1 hb, fmtS_one h2 hd] at h
    have := (cut_none dc).2
    rw [← h, (cut_slash da).2] at this
    cases this
  · rw [fmtS_more h1 hb, fmtS_more h2 hd] at h
    have e1 := (cut_slash (b := dec b) da).1
    have e2 := (cut_slash (b := dec b) da).2
    rw [h, (cut_slash dc).1] at e1
    rw [h, (cut_slash dc).2] at e2
    injection e2 with _ e2
    rw [e1] at vc
    rw [e2] at vd
    exact ⟨by omega, by omega⟩
theorem sh13 : shB 1 3 = true := by decide
theorem third_parts {a b : Int} (h : adB a b 1 3 = true) : ∃ g : Int, 1 ≤ g ∧ g * adN a b 1 3 = a * 3 + 1 * b ∧ g * adD a b 1 3 = b * 3 := by
  obtain ⟨h1, h2, e1, e2⟩ := ad_true h
  obtain ⟨q1, q2, q3, q4, q5, q6⟩ := sum_bd h1 h2
  rw [e1, e2]
  exact ⟨igcd (a * 3 + 1 * b) (b * 3), igcd_pos q5, rn_back (by omega) (by omega), rd_back (by omega) (by omega)⟩
/-- A third more is another share. -/
theorem third_ne {a b : Int} (h : adB a b 1 3 = true) : ¬ (adN a b 1 3 = a ∧ adD a b 1 3 = b) := by
  rintro ⟨e1, e2⟩
  obtain ⟨g, hg, p1, p2⟩ := third_parts h
  obtain ⟨_, _, b0, _⟩ := shB_msB (ad_bad h)
  rw [e1] at p1
  rw [e2] at p2
  have h3 : (g - 3) * b = 0 := by rw [Int.sub_mul]; omega
  have hg3 : g = 3 := by
    rcases Int.mul_eq_zero.1 h3 with k | k
    · omega
    · omega
  subst hg3
  omega
/-- A byte lies in a text. -/
def hasB (c : UInt8) (l : List UInt8) : Bool := l.any (· == c)
theorem hasB_take {c x : UInt8} {l : List UInt8} {k : Nat} (h : l[k]? = some x) : hasB c (l.take (k + 1)) = (hasB c (l.take k) || x == c) := by
  unfold hasB
  rw [List.take_add_one, h, List.any_append]
  simp
theorem hasB_dg {l : List UInt8} (h : ∀ c ∈ l, isDg c) : hasB 47 l = false := by
  unfold hasB
  rw [List.any_eq_false]
  intro c hc
  have := dg_ne (h c hc)
  simpa using this
theorem fmtS_slash {a b : Int} (h : shB a b = true) : hasB 47 (fmtS a b) = decide (1 < b) := by
  obtain ⟨a0, a1, b0, b1, _, _⟩ := shB_msB h
  by_cases hb : b = 1
  · rw [fmtS_one h hb, hasB_dg (dec_dg (by omega))]
    symm
    exact decide_eq_false (by omega)
  · rw [fmtS_more h hb]
    have : hasB 47 (dec a ++ 47 :: dec b) = true := by unfold hasB; simp
    rw [this]
    symm
    exact decide_eq_true (by omega)
theorem fmtS_ends {a b : Int} (h : shB a b = true) : ∃ x y l, fmtS a b = x :: l ∧ isDg x ∧ (fmtS a b)[(fmtS a b).length - 1]? = some y ∧ isDg y := by
  obtain ⟨a0, a1, b0, b1, _, _⟩ := shB_msB h
  have da := dec_dg (n := a) (by omega)
  have db := dec_dg (n := b) (by omega)
  have last : ∀ {l : List UInt8}, l ≠ [] → (∀ c ∈ l, isDg c) → ∃ y, l[l.length - 1]? = some y ∧ isDg y := fun {l} hl hd => by
    refine ⟨l.getLast hl, ?_, hd _ (List.getLast_mem hl)⟩
    rw [List.getLast_eq_getElem]
    exact List.getElem?_eq_getElem _
  cases hq : dec a with
  | nil => exact absurd hq (dec_ne a)
  | cons x l =>
    have hx : isDg x := da x (by rw [hq]; simp)
    by_cases hb : b = 1
    · obtain ⟨y, hy, hyd⟩ := last (dec_ne a) da
      exact ⟨x, y, l, by rw [fmtS_one h hb, hq], hx, by rw [fmtS_one h hb]; exact hy, hyd⟩
    · obtain ⟨y, hy, hyd⟩ := last (dec_ne b) db
      refine ⟨x, y, l ++ 47 :: dec b, by rw [fmtS_more h hb, hq]; simp, hx, ?_, hyd⟩
      rw [fmtS_more h hb]
      have hlb : 1 ≤ (dec b).length := by
        cases hd : dec b with
        | nil => exact absurd hd (dec_ne b)
        | cons _ _ => simp
      rw [List.getElem?_append_right (by simp <;> omega), show (dec a ++ 47 :: dec b).length - 1 - (dec a).length = ((dec b).length - 1) + 1 by simp <;> omega, List.getElem?_cons_succ]
      exact hy
theorem fmtS_len {a b : Int} (h : shB a b = true) : (fmtS a b).length ≤ 21 := by
  obtain ⟨a0, a1, b0, b1, _, _⟩ := shB_msB h
  have l1 := dec_len (n := a) (by omega)
  have l2 := dec_len (n := b) (by omega)
  by_cases hb : b = 1
  · rw [fmtS_one h hb]; omega
  · rw [fmtS_more h hb]; simp; omega
theorem byte_at {s : ByteArray} {l : List UInt8} (h : s.toList = l) {k : Nat} (hk : k < s.size) : l[k]? = some s[k] := by
  rw [← h, ByteArray.toList_eq]
  have hk' : k < s.data.toList.length := by rw [Array.length_toList]; exact hk
  rw [List.getElem?_eq_getElem hk', Array.getElem_toList]
  rfl
theorem u8_eq (x c : UInt8) {m : Int} (hc : (c.toNat : Int) = m) : ((x.toNat : Int) == m) = (x == c) := by
  rw [Bool.eq_iff_iff, beq_iff_eq, beq_iff_eq, ← hc]
  constructor
  · intro h
    exact UInt8.toNat_inj.1 (by omega)
  · rintro rfl
    rfl
theorem fmtS_ne {a b : Int} (h : shB a b = true) : ∃ s : ByteArray, bs (fmtS a b) = s ∧ s.toList.isEmpty = false ∧ (!s.toList.isEmpty) = true := by
  obtain ⟨x, y, l, e, _⟩ := fmtS_ends h
  have ht : (bs (fmtS a b)).toList = x :: l := by rw [← e]; exact ByteArray.toList_mk _
  exact ⟨_, rfl, by rw [ht]; rfl, by rw [ht]; rfl⟩
end Go.Proofs.YtnfflpaipabbmaaDoor
