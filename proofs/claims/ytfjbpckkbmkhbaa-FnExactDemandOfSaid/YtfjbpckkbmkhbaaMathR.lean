/-
  Plain words on demands and responses, with no program in sight.
-/
import Derived.Test.YtfjbpckkbmkhbaaMath
namespace Go.Proofs.Ytfjbpckkbmkhbaa
/-- The demand of a task: its need times the window divided by its period, rounded up. -/
def dmd (l h e x : Int) (hi : Bool) : Int := (x + e - 1) / e * (if hi = true then h else l)
def Tk.dm (t : Tk) (x : Int) (hi : Bool) : Int := dmd t.low t.high t.every x hi
theorem jobs_bd {x e : Int} (hx : 0 ≤ x) (hx' : x ≤ 1000000000) (he : 1 ≤ e) : 0 ≤ (x + e - 1) / e ∧ (x + e - 1) / e ≤ x + e - 1 :=
  ⟨Int.ediv_nonneg (by omega) (by omega), Int.ediv_le_self _ (by omega)⟩
theorem mul_small {a b B C : Int} (ha : 0 ≤ a) (ha' : a ≤ B) (hb : 0 ≤ b) (hb' : b ≤ C) : 0 ≤ a * b ∧ a * b ≤ B * C :=
  ⟨Int.mul_nonneg ha hb, Int.mul_le_mul ha' hb' hb (by omega)⟩
/-- What DemandOf answers. -/
def doB (l h d e : Int) (c : Bool) (x : Int) : Bool := tvB l h d e c && (decide (0 ≤ x) && decide (x ≤ 1000000))
def doN (l h d e : Int) (c : Bool) (x : Int) (hi : Bool) : Int := if doB l h d e c x = true then dmd l h e x hi else 0
theorem do_ways (l h d e : Int) (c : Bool) (x : Int) (hi : Bool) : (tvB l h d e c = false ∧ doN l h d e c x hi = 0 ∧ doB l h d e c x = false) ∨ (tvB l h d e c = true ∧ ¬ 0 ≤ x ∧ doN l h d e c x hi = 0 ∧ doB l h d e c x = false) ∨
    (tvB l h d e c = true ∧ 0 ≤ x ∧ ¬ x ≤ 1000000 ∧ doN l h d e c x hi = 0 ∧ doB l h d e c x = false) ∨ (tvB l h d e c = true ∧ 0 ≤ x ∧ x ≤ 1000000 ∧ doN l h d e c x hi = dmd l h e x hi ∧ doB l h d e c x = true) := by
  unfold doN
  have e1 : doB l h d e c x = (tvB l h d e c && (decide (0 ≤ x) && decide (x ≤ 1000000))) := rfl
  cases h1 : tvB l h d e c
  · rw [h1] at e1
    rw [e1]
    exact .inl ⟨rfl, rfl, rfl⟩
  · right
    by_cases h2 : 0 ≤ x
    · right
      by_cases h3 : x ≤ 1000000
      · right
        rw [h1, decide_eq_true h2, decide_eq_true h3] at e1
        rw [e1]
        exact ⟨rfl, h2, h3, rfl, rfl⟩
      · left
        rw [h1, decide_eq_true h2, decide_eq_false h3] at e1
        rw [e1]
        exact ⟨rfl, h2, h3, rfl, rfl⟩
    · left
      rw [h1, decide_eq_false h2] at e1
      rw [e1]
      exact ⟨rfl, h2, rfl, rfl⟩
end Go.Proofs.Ytfjbpckkbmkhbaa
