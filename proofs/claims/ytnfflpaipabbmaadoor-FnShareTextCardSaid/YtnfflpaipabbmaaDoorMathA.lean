/-
  Plain words on sums of fractions.
-/
import Derived.Test.YtnfflpaipabbmaaDoorMathS
namespace Go.Proofs.YtnfflpaipabbmaaDoor
set_option maxRecDepth 100000
theorem ad_true {a b c d : Int} (h : adB a b c d = true) : shB a b = true ∧ shB c d = true ∧ adN a b c d = smN a b c d ∧ adD a b c d = smD a b c d := by
  rcases ad_ways a b c d with ⟨_, e, _⟩ | ⟨_, _, e, _⟩ | ⟨_, _, _, e, _⟩ | ⟨_, _, _, _, e, _⟩ | ⟨h1, h2, _, _, _, e1, e2⟩
  · rw [h] at e; cases e
  · rw [h] at e; cases e
  · rw [h] at e; cases e
  · rw [h] at e; cases e
  · exact ⟨h1, h2, e1, e2⟩
theorem sh01 : shB 0 1 = true := by decide
theorem ms07 : msB 0 7 = true ∧ msN 0 7 = 0 ∧ msD 0 7 = 1 := by decide
theorem sm_zero {a b : Int} (h : shB a b = true) : smN a b 0 1 = a ∧ smD a b 0 1 = b := by
  obtain ⟨a0, a1, b0, b1, e1, e2⟩ := shB_msB h
  unfold smN smD
  rw [Int.mul_one, Int.mul_one, Int.zero_mul, Int.add_zero]
  exact ⟨e1, e2⟩
theorem ad_zero {a b : Int} (h : shB a b = true) : adB a b 0 1 = true ∧ adN a b 0 1 = a ∧ adD a b 0 1 = b := by
  obtain ⟨a0, a1, b0, b1, _, _⟩ := shB_msB h
  obtain ⟨s1, s2⟩ := sm_zero h
  rcases ad_ways a b 0 1 with ⟨e, _⟩ | ⟨_, e, _⟩ | ⟨_, _, e, _⟩ | ⟨_, _, _, e, _⟩ | ⟨_, _, _, _, e0, e1, e2⟩
  · rw [h] at e; cases e
  · rw [sh01] at e; cases e
  · rw [s1] at e; omega
  · rw [s2] at e; omega
  · exact ⟨e0, by rw [e1, s1], by rw [e2, s2]⟩
theorem ad_comm (a b c d : Int) : adB a b c d = adB c d a b ∧ adN a b c d = adN c d a b ∧ adD a b c d = adD c d a b := by
  have e1 : smN a b c d = smN c d a b := by unfold smN; rw [Int.add_comm, Int.mul_comm b d]
  have e2 : smD a b c d = smD c d a b := by unfold smD; rw [Int.add_comm, Int.mul_comm b d]
  have e0 : adB a b c d = adB c d a b := by
    unfold adB
    rw [e1, e2]
    cases shB a b <;> cases shB c d <;> rfl
  refine ⟨e0, ?_, ?_⟩
  · unfold adN; rw [e0, e1]
  · unfold adD; rw [e0, e2]
/-- A sum is a share. -/
theorem ad_sh {a b c d : Int} (h : adB a b c d = true) : shB (adN a b c d) (adD a b c d) = true := by
  obtain ⟨h1, h2, e1, e2⟩ := ad_true h
  obtain ⟨m1, m2, m3⟩ := l2_make h1 h2
  rw [e1, e2]
  unfold shB
  rw [m1, m2, m3, h, e1, e2]
  simp
/-- A sum is no less than its first part. -/
theorem ad_le {a b c d : Int} (h : adB a b c d = true) : cmpS a b (adN a b c d) (adD a b c d) ≤ 0 := by
  obtain ⟨h1, h2, e1, e2⟩ := ad_true h
  obtain ⟨a0, a1, b0, b1, _, _⟩ := shB_msB h1
  obtain ⟨c0, c1, d0, d1, _, _⟩ := shB_msB h2
  obtain ⟨q1, q2, q3, q4, q5, q6⟩ := sum_bd h1 h2
  have k1 := rn_back (x := a * d + c * b) (y := b * d) (by omega) (by omega)
  have k2 := rd_back (x := a * d + c * b) (y := b * d) (by omega) (by omega)
  have hg := igcd_pos (x := a * d + c * b) q5
  have key : a * adD a b c d ≤ adN a b c d * b := by
    rw [e1, e2]
    unfold smN smD
    generalize igcd (a * d + c * b) (b * d) = g at *
    generalize rn (a * d + c * b) (b * d) = N at *
    generalize rd (a * d + c * b) (b * d) = D at *
    refine Int.le_of_mul_le_mul_left (a := g) ?_ (by omega)
    have t1 : g * (a * D) = a * (b * d) := by rw [← k2, ← Int.mul_assoc, ← Int.mul_assoc, Int.mul_comm g a]
    have t2 : g * (N * b) = (a * d + c * b) * b := by rw [← k1, Int.mul_assoc]
    rw [t1, t2, Int.add_mul]
    have t3 : a * (b * d) = a * d * b := by rw [Int.mul_comm b d, Int.mul_assoc]
    have t4 : 0 ≤ c * b * b := Int.mul_nonneg q3 (by omega)
    omega
  unfold cmpS
  by_cases hx : (shB a b && shB (adN a b c d) (adD a b c d)) = true
  · rw [if_pos hx]
    by_cases g1 : a * adD a b c d < adN a b c d * b
    · rw [if_pos g1]; omega
    · rw [if_neg g1, if_neg (by omega)]; omega
  · rw [if_neg hx]; omega
end Go.Proofs.YtnfflpaipabbmaaDoor
