/-
  Plain words on sums of the shares of tasks.
-/
import Derived.Test.YtnfflpaipabbmaaDoorMathA
import Derived.Test.YtnfflpaipabbmaaDoorMathR
import Derived.Test.YtnfflpaipabbmaaDoorMathH2
namespace Go.Proofs.YtnfflpaipabbmaaDoor
set_option maxRecDepth 100000
/-- The sum of needs over periods, not reduced: a numerator and a denominator. -/
def fsStep (f : Tk → Int) (pq : Int × Int) (t : Tk) : Int × Int := (pq.1 * t.every + f t * pq.2, pq.2 * t.every)
def fs (f : Tk → Int) (ts : List Tk) : Int × Int := ts.foldl (fsStep f) (0, 1)
def fsN (f : Tk → Int) (ts : List Tk) : Int := rn (fs f ts).1 (fs f ts).2
def fsD (f : Tk → Int) (ts : List Tk) : Int := rd (fs f ts).1 (fs f ts).2
/-- Needs lie between one and the period, periods between one and twenty. -/
def needOk (f : Tk → Int) (ts : List Tk) : Prop := ∀ t ∈ ts, 1 ≤ f t ∧ f t ≤ t.every ∧ 1 ≤ t.every ∧ t.every ≤ 20
theorem fs_snoc (f : Tk → Int) (ts : List Tk) (t : Tk) : fs f (ts ++ [t]) = fsStep f (fs f ts) t := by unfold fs; rw [List.foldl_append]; rfl
theorem fs_bd (f : Tk → Int) : ∀ (k : Nat) (ts : List Tk), ts.length = k → needOk f ts → 0 ≤ (fs f ts).1 ∧ (fs f ts).1 ≤ k * (fs f ts).2 ∧ 1 ≤ (fs f ts).2 ∧ (fs f ts).2 ≤ 20 ^ k := by
  intro k
  induction k with
  | zero => intro ts hl _; rw [List.length_eq_zero_iff.1 hl]; simp [fs]
  | succ k ih =>
    intro ts hl ho
    obtain ⟨us, t, rfl⟩ : ∃ us t, ts = us ++ [t] := ⟨ts.dropLast, ts.getLast (by intro e; rw [e] at hl; simp at hl), (List.dropLast_concat_getLast _).symm⟩
    have hu : us.length = k := by simp at hl; omega
    obtain ⟨i0, i1, i2, i3⟩ := ih us hu (fun x hx => ho x (by simp [hx]))
    obtain ⟨o1, o2, o3, o4⟩ := ho t (by simp)
    rw [fs_snoc]
    unfold fsStep
    generalize (fs f us).1 = P at *
    generalize (fs f us).2 = Q at *
    simp only
    have p1 : 0 ≤ P * t.every := Int.mul_nonneg i0 (by omega)
    have p2 : 0 ≤ f t * Q := Int.mul_nonneg (by omega) (by omega)
    have p3 : 1 * 1 ≤ Q * t.every := Int.mul_le_mul i2 o3 (by omega) (by omega)
    have p4 : Q * t.every ≤ 20 ^ k * 20 := Int.mul_le_mul i3 o4 (by omega) (by omega)
    have p5 : P * t.every ≤ k * Q * t.every := Int.mul_le_mul_of_nonneg_right i1 (by omega)
    have p6 : f t * Q ≤ t.every * Q := Int.mul_le_mul_of_nonneg_right o2 (by omega)
    refine ⟨by omega, ?_, by omega, by rw [Int.pow_succ]; exact p4⟩
    have e : ((k + 1 : Nat) : Int) * (Q * t.every) = k * Q * t.every + t.every * Q := by
      rw [Int.natCast_add, Int.add_mul, ← Int.mul_assoc, Int.mul_comm Q t.every]
      simp
    rw [e]
    omega
/-- Reducing in between changes nothing. -/
theorem red_step {P Q e n : Int} (hP : 0 ≤ P) (hQ : 1 ≤ Q) (he : 1 ≤ e) (hn : 0 ≤ n) :
    rn (rn P Q * e + n * rd P Q) (rd P Q * e) = rn (P * e + n * Q) (Q * e) ∧ rd (rn P Q * e + n * rd P Q) (rd P Q * e) = rd (P * e + n * Q) (Q * e) := by
  have k1 := rn_back (x := P) (y := Q) hP (by omega)
  have k2 := rd_back (x := P) (y := Q) hP (by omega)
  have hg := igcd_pos (x := P) hQ
  have h1 := rn_bd hP hQ
  have h2 := rd_bd (a := P) hQ
  generalize rn P Q = p at *
  generalize rd P Q = q at *
  generalize igcd P Q = g at *
  have e1 : P * e + n * Q = g * (p * e + n * q) := by rw [← k1, ← k2, Int.mul_add, Int.mul_assoc, Int.mul_left_comm n g q]
  have e2 : Q * e = g * (q * e) := by rw [← k2, Int.mul_assoc]
  have n1 : 0 ≤ p * e := Int.mul_nonneg h1.1 (by omega)
  have n2 : 0 ≤ n * q := Int.mul_nonneg hn (by omega)
  have n3 : 0 ≤ q * e := Int.mul_nonneg (by omega) (by omega)
  rw [e1, e2, rn_mul hg (by omega) n3, rd_mul hg (by omega) n3]
  exact ⟨rfl, rfl⟩
theorem fsN_snoc {f : Tk → Int} {ts : List Tk} {t : Tk} (ho : needOk f (ts ++ [t])) :
    rn (fsN f ts * t.every + f t * fsD f ts) (fsD f ts * t.every) = fsN f (ts ++ [t]) ∧ rd (fsN f ts * t.every + f t * fsD f ts) (fsD f ts * t.every) = fsD f (ts ++ [t]) := by
  have hb := fs_bd f _ ts rfl (fun x hx => ho x (by simp [hx]))
  have ht := ho t (by simp)
  have := red_step (P := (fs f ts).1) (Q := (fs f ts).2) (e := t.every) (n := f t) hb.1 hb.2.2.1 (by omega) (by omega)
  unfold fsN fsD
  rw [fs_snoc]
  exact this
/-- The bounds of the sum's numbers. -/
theorem fsN_bd {f : Tk → Int} {ts : List Tk} (hl : ts.length ≤ 5) (ho : needOk f ts) : 0 ≤ fsN f ts ∧ fsN f ts ≤ 16000000 ∧ 1 ≤ fsD f ts ∧ fsD f ts ≤ 3200000 := by
  have hb := fs_bd f _ ts rfl ho
  have h1 := rn_bd (a := (fs f ts).1) (b := (fs f ts).2) hb.1 hb.2.2.1
  have h2 := rd_bd (a := (fs f ts).1) (b := (fs f ts).2) hb.2.2.1
  have hp := pow_small (k := ts.length) hl
  have hm : (ts.length : Int) * (fs f ts).2 ≤ 5 * (fs f ts).2 := Int.mul_le_mul_of_nonneg_right (by omega) (by omega)
  unfold fsN fsD
  omega
theorem fs_sh {f : Tk → Int} {ts : List Tk} (hl : ts.length ≤ 5) (ho : needOk f ts) : shB (fsN f ts) (fsD f ts) = true := by
  have hb := fs_bd f _ ts rfl ho
  have hd := fsN_bd hl ho
  have hm : msB (fsN f ts) (fsD f ts) = true := decide_eq_true (by omega)
  have e1 : msN (fsN f ts) (fsD f ts) = fsN f ts := (if_pos hm).trans (rn_red hb.1 hb.2.2.1)
  have e2 : msD (fsN f ts) (fsD f ts) = fsD f ts := (if_pos hm).trans (rd_red hb.1 hb.2.2.1)
  unfold shB
  rw [hm, e1, e2]
  simp
/-- Over a common multiple of the periods. -/
def over (f : Tk → Int) (L : Int) (ts : List Tk) : Int := (ts.map fun t => f t * (L / t.every)).foldl (· + ·) 0
theorem sum_shift (xs : List Int) : ∀ a : Int, xs.foldl (· + ·) a = a + xs.foldl (· + ·) 0 := by
  induction xs with
  | nil => intro a; simp
  | cons x xs ih => intro a; rw [List.foldl_cons, List.foldl_cons, ih (a + x), ih (0 + x)]; omega
theorem over_nil (f : Tk → Int) (L : Int) : over f L [] = 0 := rfl
theorem over_cons (f : Tk → Int) (L : Int) (t : Tk) (ts : List Tk) : over f L (t :: ts) = f t * (L / t.every) + over f L ts := by
  unfold over
  rw [List.map_cons, List.foldl_cons, sum_shift]
  omega
theorem over_append (f : Tk → Int) (L : Int) (ts us : List Tk) : over f L (ts ++ us) = over f L ts + over f L us := by
  induction ts with
  | nil => rw [over_nil]; simp
  | cons t ts ih => rw [List.cons_append, over_cons, over_cons, ih]; omega
theorem over_snoc (f : Tk → Int) (L : Int) (ts : List Tk) (t : Tk) : over f L (ts ++ [t]) = over f L ts + f t * (L / t.every) := by
  rw [over_append, over_cons, over_nil]; omega
theorem fs_over (f : Tk → Int) (L : Int) : ∀ (k : Nat) (ts : List Tk), ts.length = k → needOk f ts → (∀ t ∈ ts, t.every ∣ L) → (fs f ts).1 * L = over f L ts * (fs f ts).2 := by
  intro k
  induction k with
  | zero => intro ts hl _ _; rw [List.length_eq_zero_iff.1 hl]; simp [fs, over]
  | succ k ih =>
    intro ts hl ho hd
    obtain ⟨us, t, rfl⟩ : ∃ us t, ts = us ++ [t] := ⟨ts.dropLast, ts.getLast (by intro e; rw [e] at hl; simp at hl), (List.dropLast_concat_getLast _).symm⟩
    have hu : us.length = k := by simp at hl; omega
    have i := ih us hu (fun x hx => ho x (by simp [hx])) (fun x hx => hd x (by simp [hx]))
    obtain ⟨q, hq⟩ := hd t (by simp)
    obtain ⟨o1, o2, o3, o4⟩ := ho t (by simp)
    rw [fs_snoc, over_snoc]
    unfold fsStep
    have hq' : L / t.every = q := by rw [hq, Int.mul_ediv_cancel_left _ (by omega)]
    rw [hq']
    generalize (fs f us).1 = P at *
    generalize (fs f us).2 = Q at *
    generalize over f L us = S at *
    simp only
    have e1 : P * t.every * L = S * (Q * t.every) := by rw [Int.mul_right_comm, i, Int.mul_assoc]
    have e2 : f t * Q * L = f t * q * (Q * t.every) := by
      rw [hq, Int.mul_assoc, Int.mul_assoc]
      congr 1
      rw [Int.mul_comm t.every q, ← Int.mul_assoc, ← Int.mul_assoc, Int.mul_comm Q q]
    rw [Int.add_mul, Int.add_mul, e1, e2]
theorem over_nonneg {f : Tk → Int} {L : Int} (hL : 1 ≤ L) {ts : List Tk} (ho : needOk f ts) : 0 ≤ over f L ts := by
  induction ts with
  | nil => rw [over_nil]; omega
  | cons t ts ih =>
    obtain ⟨o1, o2, o3, o4⟩ := ho t (by simp)
    have := ih (fun x hx => ho x (by simp [hx]))
    have : 0 ≤ f t * (L / t.every) := Int.mul_nonneg (by omega) (Int.ediv_nonneg (by omega) (by omega))
    rw [over_cons]
    omega
theorem over_le {f : Tk → Int} {L : Int} (hL : 1 ≤ L) {ts : List Tk} (ho : needOk f ts) (hd : ∀ t ∈ ts, t.every ∣ L) : over f L ts ≤ ts.length * L := by
  induction ts with
  | nil => rw [over_nil]; simp
  | cons t ts ih =>
    obtain ⟨o1, o2, o3, o4⟩ := ho t (by simp)
    have i := ih (fun x hx => ho x (by simp [hx])) (fun x hx => hd x (by simp [hx]))
    have hq : 0 ≤ L / t.every := Int.ediv_nonneg (by omega) (by omega)
    have h1 : f t * (L / t.every) ≤ t.every * (L / t.every) := Int.mul_le_mul_of_nonneg_right o2 hq
    rw [Int.mul_ediv_cancel' (hd t (by simp))] at h1
    rw [over_cons, List.length_cons, Int.natCast_add, Int.add_mul]
    simp
    omega
/-- The sum, reduced, is that over any common multiple. -/
theorem fs_red {f : Tk → Int} {L : Int} {ts : List Tk} (hL : 1 ≤ L) (ho : needOk f ts) (hd : ∀ t ∈ ts, t.every ∣ L) : fsN f ts = rn (over f L ts) L ∧ fsD f ts = rd (over f L ts) L := by
  have hb := fs_bd f _ ts rfl ho
  have e := fs_over f L _ ts rfl ho hd
  have hS := over_nonneg hL ho
  have e1 : L * (fs f ts).1 = (fs f ts).2 * over f L ts := by rw [Int.mul_comm, e, Int.mul_comm]
  have e2 : L * (fs f ts).2 = (fs f ts).2 * L := Int.mul_comm _ _
  unfold fsN fsD
  rw [← rn_mul hL hb.1 (show 0 ≤ (fs f ts).2 by omega), ← rd_mul hL hb.1 (show 0 ≤ (fs f ts).2 by omega), e1, e2, rn_mul hb.2.2.1 hS (by omega), rd_mul hb.2.2.1 hS (by omega)]
  exact ⟨rfl, rfl⟩
theorem cross_rd {S L : Int} (hS : 0 ≤ S) (hL : 1 ≤ L) : ∃ g, 1 ≤ g ∧ g * rn S L = S ∧ g * rd S L = L := ⟨igcd S L, igcd_pos hL, rn_back hS (by omega), rd_back hS (by omega)⟩
/-- The sum of two such sums. -/
theorem sm_over {A B L : Int} (hA : 0 ≤ A) (hB : 0 ≤ B) (hL : 1 ≤ L) : smN (rn A L) (rd A L) (rn B L) (rd B L) = rn (A + B) L ∧ smD (rn A L) (rd A L) (rn B L) (rd B L) = rd (A + B) L := by
  obtain ⟨g, g1, gN, gD⟩ := cross_rd hA hL
  obtain ⟨k, k1, kN, kD⟩ := cross_rd hB hL
  have a1 := rn_bd hA hL
  have a2 := rd_bd (a := A) hL
  have b1 := rn_bd hB hL
  have b2 := rd_bd (a := B) hL
  unfold smN smD
  generalize rn A L = x at *
  generalize rd A L = X at *
  generalize rn B L = y at *
  generalize rd B L = Y at *
  have p : 1 * 1 ≤ g * k := Int.mul_le_mul g1 k1 (by omega) (by omega)
  have n1 : 0 ≤ x * Y := Int.mul_nonneg a1.1 (by omega)
  have n2 : 0 ≤ y * X := Int.mul_nonneg b1.1 (by omega)
  have n3 : 0 ≤ X * Y := Int.mul_nonneg (by omega) (by omega)
  have e1 : g * k * (x * Y + y * X) = L * (A + B) := by
    have t1 : g * k * (x * Y) = L * A := by rw [← gN, ← kD]; simp only [Int.mul_comm, Int.mul_left_comm]
    have t2 : g * k * (y * X) = L * B := by rw [← gD, ← kN]; simp only [Int.mul_comm, Int.mul_left_comm]
    rw [Int.mul_add, Int.mul_add, t1, t2]
  have e2 : g * k * (X * Y) = L * L := by
    conv => rhs; rw [← gD]; arg 2; rw [gD, ← kD]
    rw [Int.mul_assoc, Int.mul_assoc, Int.mul_left_comm k X Y]
  rw [← rn_mul (g := g * k) (by omega) (by omega) n3, ← rd_mul (g := g * k) (by omega) (by omega) n3, e1, e2, rn_mul hL (by omega) (by omega), rd_mul hL (by omega) (by omega)]
  exact ⟨rfl, rfl⟩
theorem cmp_over {A B L : Int} (hA : 0 ≤ A) (hL : 1 ≤ L) (hAB : A ≤ B) : cmpS (rn A L) (rd A L) (rn B L) (rd B L) ≤ 0 := by
  obtain ⟨g, g1, gN, gD⟩ := cross_rd hA hL
  obtain ⟨k, k1, kN, kD⟩ := cross_rd (show 0 ≤ B by omega) hL
  have key : rn A L * rd B L ≤ rn B L * rd A L := by
    generalize rn A L = x at *
    generalize rd A L = X at *
    generalize rn B L = y at *
    generalize rd B L = Y at *
    have p : 1 * 1 ≤ g * k := Int.mul_le_mul g1 k1 (by omega) (by omega)
    refine Int.le_of_mul_le_mul_left (a := g * k) ?_ (by omega)
    have t1 : g * k * (x * Y) = A * L := by rw [← gN, ← kD, Int.mul_assoc, Int.mul_assoc, Int.mul_left_comm k x Y]
    have t2 : g * k * (y * X) = B * L := by rw [← kN, ← gD, Int.mul_comm g k, Int.mul_assoc, Int.mul_assoc, Int.mul_left_comm g y X]
    rw [t1, t2]
    exact Int.mul_le_mul_of_nonneg_right hAB (by omega)
  unfold cmpS
  by_cases hx : (shB (rn A L) (rd A L) && shB (rn B L) (rd B L)) = true
  · rw [if_pos hx]
    by_cases u1 : rn A L * rd B L < rn B L * rd A L
    · rw [if_pos u1]; omega
    · rw [if_neg u1, if_neg (by omega)]; omega
  · rw [if_neg hx]; omega
theorem over_perm {f : Tk → Int} {L : Int} {ts us : List Tk} (h : ts.Perm us) : over f L ts = over f L us := by
  induction h with
  | nil => rfl
  | cons x _ ih => rw [over_cons, over_cons, ih]
  | swap x y l => rw [over_cons, over_cons, over_cons, over_cons]; omega
  | trans _ _ i1 i2 => rw [i1, i2]
theorem over_mono {f g : Tk → Int} {L : Int} (hL : 1 ≤ L) {ts : List Tk} (he : ∀ t ∈ ts, 1 ≤ t.every) (h : ∀ t ∈ ts, f t ≤ g t) : over f L ts ≤ over g L ts := by
  induction ts with
  | nil => rw [over_nil, over_nil]; omega
  | cons t ts ih =>
    have i := ih (fun x hx => he x (by simp [hx])) (fun x hx => h x (by simp [hx]))
    have := he t (by simp)
    have : f t * (L / t.every) ≤ g t * (L / t.every) := Int.mul_le_mul_of_nonneg_right (h t (by simp)) (Int.ediv_nonneg (by omega) (by omega))
    rw [over_cons, over_cons]
    omega
theorem over_map (f : Tk → Int) (g : Tk → Tk) (L : Int) (ts : List Tk) (he : ∀ t ∈ ts, (g t).every = t.every) : over f L (ts.map g) = over (fun t => f (g t)) L ts := by
  induction ts with
  | nil => rfl
  | cons t ts ih => rw [List.map_cons, over_cons, over_cons, ih (fun x hx => he x (by simp [hx])), he t (by simp)]
end Go.Proofs.YtnfflpaipabbmaaDoor
