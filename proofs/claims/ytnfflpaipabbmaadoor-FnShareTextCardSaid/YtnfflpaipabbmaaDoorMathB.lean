/-
  Adding keeps the order of fractions.
-/
import Derived.Test.YtnfflpaipabbmaaDoorMathA
namespace Go.Proofs.YtnfflpaipabbmaaDoor
set_option maxRecDepth 100000
theorem sh12 : shB 1 2 = true := by decide
theorem ad_bad {a b c d : Int} (h : adB a b c d = true) : shB a b = true := (ad_true h).1
theorem half_parts {a b : Int} (h : adB a b 1 2 = true) : ∃ g : Int, 1 ≤ g ∧ g * adN a b 1 2 = a * 2 + 1 * b ∧ g * adD a b 1 2 = b * 2 := by
  obtain ⟨h1, h2, e1, e2⟩ := ad_true h
  obtain ⟨q1, q2, q3, q4, q5, q6⟩ := sum_bd h1 h2
  rw [e1, e2]
  exact ⟨igcd (a * 2 + 1 * b) (b * 2), igcd_pos q5, rn_back (by omega) (by omega), rd_back (by omega) (by omega)⟩
theorem ad_more {a b c d : Int} (h : adB a b 1 2 = true) (k : adB c d 1 2 = true) : cmpS (adN a b 1 2) (adD a b 1 2) (adN c d 1 2) (adD c d 1 2) = cmpS a b c d := by
  have s1 := ad_sh h
  have s2 := ad_sh k
  have t1 := ad_bad h
  have t2 := ad_bad k
  obtain ⟨g, g1, gN, gD⟩ := half_parts h
  obtain ⟨f, f1, fN, fD⟩ := half_parts k
  generalize adN a b 1 2 = x at *
  generalize adD a b 1 2 = X at *
  generalize adN c d 1 2 = y at *
  generalize adD c d 1 2 = Y at *
  have p : 0 < g * f := Int.mul_pos (by omega) (by omega)
  have e1 : g * f * (x * Y) = (a * 2 + 1 * b) * (d * 2) := by
    rw [← gN, ← fD, Int.mul_assoc, Int.mul_assoc, Int.mul_left_comm f x Y]
  have e2 : g * f * (y * X) = (c * 2 + 1 * d) * (b * 2) := by
    rw [← fN, ← gD, Int.mul_comm g f, Int.mul_assoc, Int.mul_assoc, Int.mul_left_comm g y X]
  have d1 : (a * 2 + 1 * b) * (d * 2) = 4 * (a * d) + 2 * (b * d) := by
    rw [Int.add_mul, Int.mul_assoc, Int.one_mul]
    have : a * (2 * (d * 2)) = a * d * 4 := by rw [show (2 : Int) * (d * 2) = d * 4 by omega, Int.mul_assoc]
    rw [this, ← Int.mul_assoc]
    omega
  have d2 : (c * 2 + 1 * d) * (b * 2) = 4 * (c * b) + 2 * (b * d) := by
    rw [Int.add_mul, Int.mul_assoc, Int.one_mul]
    have : c * (2 * (b * 2)) = c * b * 4 := by rw [show (2 : Int) * (b * 2) = b * 4 by omega, Int.mul_assoc]
    rw [this, ← Int.mul_assoc, Int.mul_comm d b]
    omega
  have i1 : x * Y < y * X ↔ a * d < c * b := by
    rw [← Int.mul_lt_mul_left p, e1, e2, d1, d2]
    omega
  have i2 : y * X < x * Y ↔ c * b < a * d := by
    rw [← Int.mul_lt_mul_left p, e1, e2, d1, d2]
    omega
  unfold cmpS
  have c1 : (shB x X && shB y Y) = true := by rw [s1, s2]; rfl
  have c2 : (shB a b && shB c d) = true := by rw [t1, t2]; rfl
  rw [if_pos c1, if_pos c2]
  by_cases u1 : a * d < c * b
  · rw [if_pos (i1.2 u1), if_pos u1]
  · rw [if_neg (fun e => u1 (i1.1 e)), if_neg u1]
    by_cases u2 : c * b < a * d
    · rw [if_pos (i2.2 u2), if_pos u2]
    · rw [if_neg (fun e => u2 (i2.1 e)), if_neg u2]
end Go.Proofs.YtnfflpaipabbmaaDoor
