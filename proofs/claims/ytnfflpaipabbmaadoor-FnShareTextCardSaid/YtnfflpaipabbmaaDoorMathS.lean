/-
  Plain words on fractions, with no program in sight.
-/
namespace Go.Proofs.YtnfflpaipabbmaaDoor
set_option maxRecDepth 100000
def igcd (a b : Int) : Int := (Nat.gcd a.toNat b.toNat : Nat)
theorem igcd_zero {x : Int} (hx : 0 ≤ x) : x = igcd x 0 := by
  unfold igcd
  simp
  omega
theorem igcd_comm (x y : Int) : igcd x y = igcd y x := by
  unfold igcd
  rw [Nat.gcd_comm]
theorem igcd_step {x y : Int} (hx : 0 ≤ x) (hy : 0 ≤ y) : igcd y (x % y) = igcd x y := by
  unfold igcd
  congr 1
  have e : (x % y).toNat = x.toNat % y.toNat := by
    obtain ⟨m, rfl⟩ := Int.eq_ofNat_of_zero_le hx
    obtain ⟨n, rfl⟩ := Int.eq_ofNat_of_zero_le hy
    simp [← Int.natCast_emod]
  rw [e, Nat.gcd_comm x.toNat, Nat.gcd_rec y.toNat x.toNat, Nat.gcd_comm]
theorem igcd_pos {x y : Int} (hy : 1 ≤ y) : 1 ≤ igcd x y := by
  unfold igcd
  have := Nat.gcd_pos_of_pos_right x.toNat (n := y.toNat) (by omega)
  omega
/-- The two numbers of a fraction in lowest terms. -/
def rn (a b : Int) : Int := a / igcd a b
def rd (a b : Int) : Int := b / igcd a b
theorem rn_eq {a b : Int} (ha : 0 ≤ a) : a.tdiv (igcd a b) = rn a b := Int.tdiv_eq_ediv_of_nonneg ha
theorem rd_eq {a b : Int} (hb : 0 ≤ b) : b.tdiv (igcd a b) = rd a b := Int.tdiv_eq_ediv_of_nonneg hb
theorem rn_bd {a b : Int} (ha : 0 ≤ a) (hb : 1 ≤ b) : 0 ≤ rn a b ∧ rn a b ≤ a := by
  unfold rn
  exact ⟨Int.ediv_nonneg ha (by have := igcd_pos (x := a) hb; omega), Int.ediv_le_self _ ha⟩
theorem rd_bd {a b : Int} (hb : 1 ≤ b) : 1 ≤ rd a b ∧ rd a b ≤ b := by
  unfold rd
  refine ⟨?_, Int.ediv_le_self _ (by omega)⟩
  have h1 := igcd_pos (x := a) hb
  have h2 : igcd a b ≤ b := by
    unfold igcd
    have := Nat.gcd_le_right (m := a.toNat) (n := b.toNat) (by omega)
    omega
  have : (1 : Int) * igcd a b ≤ b := by omega
  exact (Int.le_ediv_iff_mul_le (by omega)).2 this
/-- What MakeShare answers. -/
def msB (a b : Int) : Bool := decide (0 ≤ a ∧ a ≤ 1000000000 ∧ 1 ≤ b ∧ b ≤ 1000000000)
def msN (a b : Int) : Int := if msB a b = true then rn a b else 0
def msD (a b : Int) : Int := if msB a b = true then rd a b else 0
theorem ms_ways (a b : Int) : (¬ 0 ≤ a ∧ msB a b = false ∧ msN a b = 0 ∧ msD a b = 0) ∨ (0 ≤ a ∧ ¬ a ≤ 1000000000 ∧ msB a b = false ∧ msN a b = 0 ∧ msD a b = 0) ∨ (0 ≤ a ∧ a ≤ 1000000000 ∧ ¬ 1 ≤ b ∧ msB a b = false ∧ msN a b = 0 ∧ msD a b = 0) ∨
    (0 ≤ a ∧ a ≤ 1000000000 ∧ 1 ≤ b ∧ ¬ b ≤ 1000000000 ∧ msB a b = false ∧ msN a b = 0 ∧ msD a b = 0) ∨ (0 ≤ a ∧ a ≤ 1000000000 ∧ 1 ≤ b ∧ b ≤ 1000000000 ∧ msB a b = true ∧ msN a b = rn a b ∧ msD a b = rd a b) := by
  unfold msN msD
  by_cases h : msB a b = true
  · rw [h]
    have := of_decide_eq_true h
    simp
    omega
  · rw [Bool.not_eq_true] at h
    rw [h]
    have := of_decide_eq_false h
    simp
    omega
/-- What ShareValid answers. -/
def shB (a b : Int) : Bool := msB a b && (decide (msN a b = a) && decide (msD a b = b))
theorem shB_msB {a b : Int} (h : shB a b = true) : 0 ≤ a ∧ a ≤ 1000000000 ∧ 1 ≤ b ∧ b ≤ 1000000000 ∧ rn a b = a ∧ rd a b = b := by
  unfold shB at h
  simp only [Bool.and_eq_true, decide_eq_true_iff] at h
  have h1 : 0 ≤ a ∧ a ≤ 1000000000 ∧ 1 ≤ b ∧ b ≤ 1000000000 := of_decide_eq_true h.1
  have hn : msN a b = rn a b := if_pos h.1
  have hd : msD a b = rd a b := if_pos h.1
  exact ⟨h1.1, h1.2.1, h1.2.2.1, h1.2.2.2, by rw [← hn]; exact h.2.1, by rw [← hd]; exact h.2.2⟩
/-- What CompareShares answers. -/
def cmpS (a b c d : Int) : Int := if (shB a b && shB c d) = true then (if a * d < c * b then -1 else if c * b < a * d then 1 else 0) else 0
/-- The sum of two fractions in lowest terms. -/
def smN (a b c d : Int) : Int := rn (a * d + c * b) (b * d)
def smD (a b c d : Int) : Int := rd (a * d + c * b) (b * d)
/-- What AddShares answers. -/
def adB (a b c d : Int) : Bool := shB a b && (shB c d && (decide (smN a b c d ≤ 1000000000) && decide (smD a b c d ≤ 1000000000)))
def adN (a b c d : Int) : Int := if adB a b c d = true then smN a b c d else 0
def adD (a b c d : Int) : Int := if adB a b c d = true then smD a b c d else 0
theorem ad_ways (a b c d : Int) : (shB a b = false ∧ adB a b c d = false ∧ adN a b c d = 0 ∧ adD a b c d = 0) ∨ (shB a b = true ∧ shB c d = false ∧ adB a b c d = false ∧ adN a b c d = 0 ∧ adD a b c d = 0) ∨
    (shB a b = true ∧ shB c d = true ∧ ¬ smN a b c d ≤ 1000000000 ∧ adB a b c d = false ∧ adN a b c d = 0 ∧ adD a b c d = 0) ∨ (shB a b = true ∧ shB c d = true ∧ smN a b c d ≤ 1000000000 ∧ ¬ smD a b c d ≤ 1000000000 ∧ adB a b c d = false ∧ adN a b c d = 0 ∧ adD a b c d = 0) ∨
    (shB a b = true ∧ shB c d = true ∧ smN a b c d ≤ 1000000000 ∧ smD a b c d ≤ 1000000000 ∧ adB a b c d = true ∧ adN a b c d = smN a b c d ∧ adD a b c d = smD a b c d) := by
  unfold adN adD
  have e : adB a b c d = (shB a b && (shB c d && (decide (smN a b c d ≤ 1000000000) && decide (smD a b c d ≤ 1000000000)))) := rfl
  cases h1 : shB a b
  · left
    rw [h1] at e
    rw [e]
    exact ⟨rfl, rfl, rfl, rfl⟩
  · right
    cases h2 : shB c d
    · left
      rw [h1, h2] at e
      rw [e]
      exact ⟨rfl, rfl, rfl, rfl, rfl⟩
    · right
      by_cases h3 : smN a b c d ≤ 1000000000
      · right
        by_cases h4 : smD a b c d ≤ 1000000000
        · right
          rw [h1, h2, decide_eq_true h3, decide_eq_true h4] at e
          rw [e]
          exact ⟨rfl, rfl, h3, h4, rfl, rfl, rfl⟩
        · left
          rw [h1, h2, decide_eq_true h3, decide_eq_false h4] at e
          rw [e]
          exact ⟨rfl, rfl, h3, h4, rfl, rfl, rfl⟩
      · left
        rw [h1, h2, decide_eq_false h3] at e
        rw [e]
        exact ⟨rfl, rfl, h3, rfl, rfl, rfl⟩
theorem mul_bd {a d : Int} (ha : 0 ≤ a) (ha' : a ≤ 1000000000) (hd : 0 ≤ d) (hd' : d ≤ 1000000000) : 0 ≤ a * d ∧ a * d ≤ 1000000000000000000 := by
  refine ⟨Int.mul_nonneg ha hd, ?_⟩
  have h := Int.mul_le_mul ha' hd' hd (by omega)
  omega
theorem sum_bd {a b c d : Int} (h1 : shB a b = true) (h2 : shB c d = true) : 0 ≤ a * d ∧ a * d ≤ 1000000000000000000 ∧ 0 ≤ c * b ∧ c * b ≤ 1000000000000000000 ∧ 1 ≤ b * d ∧ b * d ≤ 1000000000000000000 := by
  obtain ⟨a0, a1, b0, b1, _, _⟩ := shB_msB h1
  obtain ⟨c0, c1, d0, d1, _, _⟩ := shB_msB h2
  have p1 := mul_bd (a := a) (d := d) a0 a1 (by omega) d1
  have p2 := mul_bd (a := c) (d := b) c0 c1 (by omega) b1
  have p3 := mul_bd (a := b) (d := d) (by omega) b1 (by omega) d1
  have p4 : 1 * 1 ≤ b * d := Int.mul_le_mul b0 d0 (by omega) (by omega)
  omega
theorem igcd_nat (m n : Nat) : igcd (m : Int) (n : Int) = (Nat.gcd m n : Nat) := by unfold igcd; simp
theorem rn_nat (m n : Nat) : rn (m : Int) (n : Int) = ((m / Nat.gcd m n : Nat) : Int) := by unfold rn; rw [igcd_nat]; simp
theorem rd_nat (m n : Nat) : rd (m : Int) (n : Int) = ((n / Nat.gcd m n : Nat) : Int) := by unfold rd; rw [igcd_nat]; simp
theorem nat_of {x : Int} (h : 0 ≤ x) : ∃ n : Nat, x = n := Int.eq_ofNat_of_zero_le h
theorem igcd_mul {g x y : Int} (hg : 0 ≤ g) (hx : 0 ≤ x) (hy : 0 ≤ y) : igcd (g * x) (g * y) = g * igcd x y := by
  obtain ⟨k, rfl⟩ := nat_of hg
  obtain ⟨m, rfl⟩ := nat_of hx
  obtain ⟨n, rfl⟩ := nat_of hy
  rw [← Int.natCast_mul, ← Int.natCast_mul, igcd_nat, igcd_nat, Nat.gcd_mul_left, Int.natCast_mul]
theorem rn_mul {g x y : Int} (hg : 1 ≤ g) (hx : 0 ≤ x) (hy : 0 ≤ y) : rn (g * x) (g * y) = rn x y := by
  unfold rn
  rw [igcd_mul (by omega) hx hy, Int.mul_ediv_mul_of_pos _ _ (by omega)]
theorem rd_mul {g x y : Int} (hg : 1 ≤ g) (hx : 0 ≤ x) (hy : 0 ≤ y) : rd (g * x) (g * y) = rd x y := by
  unfold rd
  rw [igcd_mul (by omega) hx hy, Int.mul_ediv_mul_of_pos _ _ (by omega)]
theorem rn_back {x y : Int} (hx : 0 ≤ x) (hy : 0 ≤ y) : igcd x y * rn x y = x := by
  obtain ⟨m, rfl⟩ := nat_of hx
  obtain ⟨n, rfl⟩ := nat_of hy
  rw [igcd_nat, rn_nat, ← Int.natCast_mul, Nat.mul_div_cancel' (Nat.gcd_dvd_left m n)]
theorem rd_back {x y : Int} (hx : 0 ≤ x) (hy : 0 ≤ y) : igcd x y * rd x y = y := by
  obtain ⟨m, rfl⟩ := nat_of hx
  obtain ⟨n, rfl⟩ := nat_of hy
  rw [igcd_nat, rd_nat, ← Int.natCast_mul, Nat.mul_div_cancel' (Nat.gcd_dvd_right m n)]
theorem igcd_red {x y : Int} (hx : 0 ≤ x) (hy : 1 ≤ y) : igcd (rn x y) (rd x y) = 1 := by
  obtain ⟨m, rfl⟩ := nat_of hx
  obtain ⟨n, rfl⟩ := nat_of (show 0 ≤ y by omega)
  rw [rn_nat, rd_nat, igcd_nat, Nat.gcd_div (Nat.gcd_dvd_left m n) (Nat.gcd_dvd_right m n), Nat.div_self (Nat.gcd_pos_of_pos_right _ (by omega))]
  rfl
theorem rn_red {x y : Int} (hx : 0 ≤ x) (hy : 1 ≤ y) : rn (rn x y) (rd x y) = rn x y := by
  have h := igcd_red hx hy
  show rn x y / igcd (rn x y) (rd x y) = rn x y
  rw [h, Int.ediv_one]
theorem rd_red {x y : Int} (hx : 0 ≤ x) (hy : 1 ≤ y) : rd (rn x y) (rd x y) = rd x y := by
  have h := igcd_red hx hy
  show rd x y / igcd (rn x y) (rd x y) = rd x y
  rw [h, Int.ediv_one]
theorem msB_red {x y : Int} (hx : 0 ≤ x) (hy : 1 ≤ y) : msB (rn x y) (rd x y) = (decide (rn x y ≤ 1000000000) && decide (rd x y ≤ 1000000000)) := by
  have h1 := rn_bd hx hy
  have h2 := rd_bd (a := x) hy
  unfold msB
  rw [Bool.eq_iff_iff]
  simp
  omega
/-- The numbers that l2Add comes to before it reduces them. -/
def l2N (a b c d : Int) : Int := a * rd b d + c * rn b d
def l2D (b d : Int) : Int := rn b d * d
theorem l2_bd {a b c d : Int} (a0 : 0 ≤ a) (a1 : a ≤ 1000000000) (b0 : 1 ≤ b) (b1 : b ≤ 1000000000) (c0 : 0 ≤ c) (c1 : c ≤ 1000000000) (d0 : 1 ≤ d) (d1 : d ≤ 1000000000) :
    (0 ≤ rn b d ∧ rn b d ≤ 1000000000) ∧ (0 ≤ rd b d ∧ rd b d ≤ 1000000000) ∧ (0 ≤ a * rd b d ∧ a * rd b d ≤ 1000000000000000000) ∧ (0 ≤ c * rn b d ∧ c * rn b d ≤ 1000000000000000000) ∧ (1 ≤ rn b d * d ∧ rn b d * d ≤ 1000000000000000000) := by
  have h1 := rn_bd (a := b) (b := d) (by omega) d0
  have h2 := rd_bd (a := b) (b := d) d0
  have hn1 : 1 ≤ rn b d := by
    rw [show rn b d = rd d b by unfold rn rd; rw [igcd_comm]]
    exact (rd_bd b0).1
  have p1 := mul_bd (a := a) (d := rd b d) a0 a1 (by omega) (by omega)
  have p2 := mul_bd (a := c) (d := rn b d) c0 c1 (by omega) (by omega)
  have p3 := mul_bd (a := rn b d) (d := d) (by omega) (by omega) (by omega) d1
  have p4 : 1 * 1 ≤ rn b d * d := Int.mul_le_mul hn1 d0 (by omega) (by omega)
  omega
theorem l2_mul {a b c d : Int} (b0 : 1 ≤ b) (d0 : 1 ≤ d) : a * d + c * b = igcd b d * l2N a b c d ∧ b * d = igcd b d * l2D b d := by
  have h1 := rn_back (x := b) (y := d) (by omega) (by omega)
  have h2 := rd_back (x := b) (y := d) (by omega) (by omega)
  unfold l2N l2D
  generalize igcd b d = g at *
  generalize rn b d = p at *
  generalize rd b d = q at *
  subst h1
  have e2 : d = g * q := h2.symm
  constructor
  · rw [e2, Int.mul_add, ← Int.mul_assoc, ← Int.mul_assoc, ← Int.mul_assoc, ← Int.mul_assoc, Int.mul_comm g a, Int.mul_comm g c]
  · rw [Int.mul_assoc]
theorem l2_sm {a b c d : Int} (h1 : shB a b = true) (h2 : shB c d = true) : rn (l2N a b c d) (l2D b d) = smN a b c d ∧ rd (l2N a b c d) (l2D b d) = smD a b c d := by
  obtain ⟨a0, a1, b0, b1, _, _⟩ := shB_msB h1
  obtain ⟨c0, c1, d0, d1, _, _⟩ := shB_msB h2
  obtain ⟨m1, m2⟩ := l2_mul (a := a) (c := c) b0 d0
  have hb := l2_bd a0 a1 b0 b1 c0 c1 d0 d1
  have hg := igcd_pos (x := b) d0
  have hN : 0 ≤ l2N a b c d := by unfold l2N; omega
  have hD : 0 ≤ l2D b d := by unfold l2D; omega
  unfold smN smD
  rw [m1, m2]
  exact ⟨(rn_mul hg hN hD).symm, (rd_mul hg hN hD).symm⟩
/-- The reduced sum, made a share once more, is what AddShares answers. -/
theorem l2_make {a b c d : Int} (h1 : shB a b = true) (h2 : shB c d = true) : msB (smN a b c d) (smD a b c d) = adB a b c d ∧ msN (smN a b c d) (smD a b c d) = adN a b c d ∧ msD (smN a b c d) (smD a b c d) = adD a b c d := by
  obtain ⟨q1, q2, q3, q4, q5, q6⟩ := sum_bd h1 h2
  have e : adB a b c d = (shB a b && (shB c d && (decide (smN a b c d ≤ 1000000000) && decide (smD a b c d ≤ 1000000000)))) := rfl
  rw [h1, h2, Bool.true_and, Bool.true_and] at e
  have hm : msB (smN a b c d) (smD a b c d) = adB a b c d := by rw [e]; exact msB_red (by omega) q5
  refine ⟨hm, ?_, ?_⟩
  · unfold msN adN
    rw [hm]
    unfold smN smD
    rw [rn_red (by omega) q5]
  · unfold msD adD
    rw [hm]
    unfold smN smD
    rw [rd_red (by omega) q5]
theorem ms_true {a b : Int} (h : msB a b = true) : 0 ≤ a ∧ a ≤ 1000000000 ∧ 1 ≤ b ∧ b ≤ 1000000000 ∧ msN a b = rn a b ∧ msD a b = rd a b := by
  have h1 : 0 ≤ a ∧ a ≤ 1000000000 ∧ 1 ≤ b ∧ b ≤ 1000000000 := of_decide_eq_true h
  exact ⟨h1.1, h1.2.1, h1.2.2.1, h1.2.2.2, if_pos h, if_pos h⟩
/-- A share that is made from a share is the share. -/
theorem ms_twice {a b : Int} (h : msB a b = true) : msB (msN a b) (msD a b) = true ∧ msN (msN a b) (msD a b) = msN a b ∧ msD (msN a b) (msD a b) = msD a b := by
  obtain ⟨a0, a1, b0, b1, e1, e2⟩ := ms_true h
  have p1 := rn_bd a0 b0
  have p2 := rd_bd (a := a) b0
  have hm : msB (rn a b) (rd a b) = true := by rw [msB_red a0 b0]; simp; omega
  rw [e1, e2]
  refine ⟨hm, ?_, ?_⟩
  · rw [(ms_true hm).2.2.2.2.1, rn_red a0 b0]
  · rw [(ms_true hm).2.2.2.2.2, rd_red a0 b0]
theorem sh_made {a b : Int} (h : msB a b = true) : shB (msN a b) (msD a b) = true := by
  obtain ⟨h1, h2, h3⟩ := ms_twice h
  unfold shB
  rw [h1, h2, h3]
  simp
theorem ms_cross {a b : Int} (h : msB a b = true) : msN a b * b = a * msD a b ∧ msD a b ≤ b ∧ msN a b ≤ a ∧ 0 ≤ msN a b ∧ 1 ≤ msD a b := by
  obtain ⟨a0, a1, b0, b1, e1, e2⟩ := ms_true h
  have p1 := rn_bd a0 b0
  have p2 := rd_bd (a := a) b0
  rw [e1, e2]
  refine ⟨?_, p2.2, p1.2, p1.1, p2.1⟩
  have k1 := rn_back (x := a) (y := b) a0 (by omega)
  have k2 := rd_back (x := a) (y := b) a0 (by omega)
  generalize rn a b = x at *
  generalize rd a b = y at *
  generalize igcd a b = g at *
  rw [← k1, ← k2, ← Int.mul_assoc, Int.mul_comm x g]
/-- Doubled numbers are no share; nor is a denominator of nothing. -/
theorem sh_double {a b : Int} (h : shB a b = true) : shB (2 * a) (2 * b) = false := by
  obtain ⟨a0, a1, b0, b1, e1, e2⟩ := shB_msB h
  cases hm : msB (2 * a) (2 * b)
  · unfold shB; rw [hm]; rfl
  · unfold shB
    rw [hm, (ms_true hm).2.2.2.2.2, rd_mul (by omega) a0 (by omega), e2]
    simp
    omega
theorem sh_zero (a : Int) : shB a 0 = false := by
  unfold shB msB
  simp
theorem cmp_same (a b : Int) : cmpS a b a b = 0 := by
  unfold cmpS
  rw [if_neg (show ¬ a * b < a * b by omega), if_neg (show ¬ a * b < a * b by omega)]
  simp
theorem cmp_bd (a b c d : Int) : -1 ≤ cmpS a b c d ∧ cmpS a b c d ≤ 1 := by
  unfold cmpS
  by_cases h : (shB a b && shB c d) = true
  · rw [if_pos h]
    by_cases h1 : a * d < c * b
    · rw [if_pos h1]; omega
    · rw [if_neg h1]
      by_cases h2 : c * b < a * d
      · rw [if_pos h2]; omega
      · rw [if_neg h2]; omega
  · rw [if_neg h]; omega
theorem cmp_flip (a b c d : Int) : cmpS a b c d = -cmpS c d a b := by
  unfold cmpS
  rw [Bool.and_comm (shB c d)]
  by_cases h : (shB a b && shB c d) = true
  · rw [if_pos h, if_pos h]
    by_cases h1 : a * d < c * b
    · rw [if_pos h1, if_neg (show ¬ c * b < a * d by omega), if_pos h1]
    · rw [if_neg h1]
      by_cases h2 : c * b < a * d
      · rw [if_pos h2, if_pos h2]; omega
      · rw [if_neg h2, if_neg h2, if_neg h1]; omega
  · rw [if_neg h, if_neg h]; omega
theorem cmp_bad {a b c d : Int} (h : (shB a b && shB c d) = false) : cmpS a b c d = 0 := by
  unfold cmpS
  rw [if_neg (by simp [h])]
theorem cross_eq {a b c d : Int} (h1 : shB a b = true) (h2 : shB c d = true) (h : a * d = c * b) : a = c ∧ b = d := by
  obtain ⟨a0, a1, b0, b1, e1, e2⟩ := shB_msB h1
  obtain ⟨c0, c1, d0, d1, e3, e4⟩ := shB_msB h2
  have k1 := rn_mul (g := d) (x := a) (y := b) (by omega) a0 (by omega)
  have k2 := rn_mul (g := b) (x := c) (y := d) (by omega) c0 (by omega)
  have k3 := rd_mul (g := d) (x := a) (y := b) (by omega) a0 (by omega)
  have k4 := rd_mul (g := b) (x := c) (y := d) (by omega) c0 (by omega)
  rw [Int.mul_comm d a, Int.mul_comm d b, h] at k1 k3
  rw [Int.mul_comm b c] at k2 k4
  constructor
  · rw [← e1, ← e3, ← k1, ← k2]
  · rw [← e2, ← e4, ← k3, ← k4]
theorem cmp_zero {a b c d : Int} (h1 : shB a b = true) (h2 : shB c d = true) : cmpS a b c d = 0 ↔ (a = c ∧ b = d) := by
  constructor
  · intro h
    unfold cmpS at h
    rw [if_pos (by simp [h1, h2])] at h
    by_cases g1 : a * d < c * b
    · rw [if_pos g1] at h; omega
    · rw [if_neg g1] at h
      by_cases g2 : c * b < a * d
      · rw [if_pos g2] at h; omega
      · exact cross_eq h1 h2 (by omega)
  · rintro ⟨rfl, rfl⟩
    exact cmp_same a b
end Go.Proofs.YtnfflpaipabbmaaDoor
