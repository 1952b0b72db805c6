/-
  Plain words on demands and responses, with no program in sight.
-/
import Derived.Test.YtnfflpaipabbmaaDoorMath
namespace Go.Proofs.YtnfflpaipabbmaaDoor
set_option maxRecDepth 100000
/-- The demand of a task: its need times the window divided by its period, rounded up. -/
def dmd (l h e x : Int) (hi : Bool) : Int := (x + e - 1) / e * (if hi = true then h else l)
def Tk.dm (t : Tk) (x : Int) (hi : Bool) : Int := dmd t.low t.high t.every x hi
theorem jobs_bd {x e : Int} (hx : 0 ≤ x) (hx' : x ≤ 1000000000) (he : 1 ≤ e) : 0 ≤ (x + e - 1) / e ∧ (x + e - 1) / e ≤ x + e - 1 :=
  ⟨Int.ediv_nonneg (by omega) (by omega), Int.ediv_le_self _ (by omega)⟩
theorem mul_small {a b B C : Int} (ha : 0 ≤ a) (ha' : a ≤ B) (hb : 0 ≤ b) (hb' : b ≤ C) : 0 ≤ a * b ∧ a * b ≤ B * C :=
  ⟨Int.mul_nonneg ha hb, Int.mul_le_mul ha' hb' hb (by omega)⟩
/-- What DemandOf answers. -/
def doB (l h d e : Int) (c : Bool) (x : Int) : Bool := tvB l h d e c && (decide (0 ≤ x) && decide (x ≤ 1000000))
def doN (l h d e : Int) (c : Bool) (x : Int) (hi : Bool) : Int := if doB l h d e c x = true then dmd l h e x hi else 0
theorem do_ways (l h d e : Int) (c : Bool) (x : Int) (hi : Bool) : (tvB l h d e c = false ∧ doN l h d e c x hi = 0 ∧ doB l h d e c x = false) ∨ (tvB l h d e c = true ∧ ¬ 0 ≤ x ∧ doN l h d e c x hi = 0 ∧ doB l h d e c x = false) ∨
    (tvB l h d e c = true ∧ 0 ≤ x ∧ ¬ x ≤ 1000000 ∧ doN l h d e c x hi = 0 ∧ doB l h d e c x = false) ∨ (tvB l h d e c = true ∧ 0 ≤ x ∧ x ≤ 1000000 ∧ doN l h d e c x hi = dmd l h e x hi ∧ doB l h d e c x = true) := by
  unfold doN
  have e1 : doB l h d e c x = (tvB l h d e c && (decide (0 ≤ x) && decide (x ≤ 1000000))) := rfl
  cases h1 : tvB l h d e c
  · rw [h1] at e1
    rw [e1]
    exact .inl ⟨rfl, rfl, rfl⟩
  · right
    by_cases h2 : 0 ≤ x
    · right
      by_cases h3 : x ≤ 1000000
      · right
        rw [h1, decide_eq_true h2, decide_eq_true h3] at e1
        rw [e1]
        exact ⟨rfl, h2, h3, rfl, rfl⟩
      · left
        rw [h1, decide_eq_true h2, decide_eq_false h3] at e1
        rw [e1]
        exact ⟨rfl, h2, h3, rfl, rfl⟩
    · left
      rw [h1, decide_eq_false h2] at e1
      rw [e1]
      exact ⟨rfl, h2, rfl, rfl⟩
theorem e_cases {e : Int} (h1 : 1 ≤ e) (h2 : e ≤ 20) : e = 1 ∨ e = 2 ∨ e = 3 ∨ e = 4 ∨ e = 5 ∨ e = 6 ∨ e = 7 ∨ e = 8 ∨ e = 9 ∨ e = 10 ∨ e = 11 ∨ e = 12 ∨ e = 13 ∨ e = 14 ∨ e = 15 ∨ e = 16 ∨ e = 17 ∨ e = 18 ∨ e = 19 ∨ e = 20 := by omega
theorem jobs_add {e u v : Int} (h1 : 1 ≤ e) (h2 : e ≤ 20) : (u + v + e - 1) / e ≤ (u + e - 1) / e + (v + e - 1) / e := by
  rcases e_cases h1 h2 with rfl | rfl | rfl | rfl | rfl | rfl | rfl | rfl | rfl | rfl | rfl | rfl | rfl | rfl | rfl | rfl | rfl | rfl | rfl | rfl <;> omega
theorem jobs_more {e x : Int} (h1 : 1 ≤ e) (h2 : e ≤ 20) : (x + e + e - 1) / e = (x + e - 1) / e + 1 := by
  rcases e_cases h1 h2 with rfl | rfl | rfl | rfl | rfl | rfl | rfl | rfl | rfl | rfl | rfl | rfl | rfl | rfl | rfl | rfl | rfl | rfl | rfl | rfl <;> omega
theorem jobs_pos {e x : Int} (h1 : 1 ≤ e) (h2 : e ≤ 20) (hx : 1 ≤ x) : 1 ≤ (x + e - 1) / e := by
  rcases e_cases h1 h2 with rfl | rfl | rfl | rfl | rfl | rfl | rfl | rfl | rfl | rfl | rfl | rfl | rfl | rfl | rfl | rfl | rfl | rfl | rfl | rfl <;> omega
theorem jobs_zero {e : Int} (h1 : 1 ≤ e) (h2 : e ≤ 20) : (0 + e - 1) / e = 0 := by
  rcases e_cases h1 h2 with rfl | rfl | rfl | rfl | rfl | rfl | rfl | rfl | rfl | rfl | rfl | rfl | rfl | rfl | rfl | rfl | rfl | rfl | rfl | rfl <;> omega
theorem jobs_one {e : Int} (h1 : 1 ≤ e) (h2 : e ≤ 20) : (1 + e - 1) / e = 1 ∧ (e + e - 1) / e = 1 ∧ (e + 1 + e - 1) / e = 2 := by
  rcases e_cases h1 h2 with rfl | rfl | rfl | rfl | rfl | rfl | rfl | rfl | rfl | rfl | rfl | rfl | rfl | rfl | rfl | rfl | rfl | rfl | rfl | rfl <;> omega
/-- The need of a task. -/
def need (l h : Int) (hi : Bool) : Int := if hi = true then h else l
theorem dmd_need (l h e x : Int) (hi : Bool) : dmd l h e x hi = (x + e - 1) / e * need l h hi := rfl
theorem need_pos {l h : Int} (hi : Bool) (h1 : 1 ≤ l) (h2 : l ≤ h) : 1 ≤ need l h hi ∧ need l h hi ≤ h ∧ l ≤ need l h hi := by
  unfold need
  cases hi <;> simp <;> omega
theorem dmd_add {l h e u v : Int} (hi : Bool) (l1 : 1 ≤ l) (l2 : l ≤ h) (h1 : 1 ≤ e) (h2 : e ≤ 20) : dmd l h e (u + v) hi ≤ dmd l h e u hi + dmd l h e v hi := by
  rw [dmd_need, dmd_need, dmd_need, ← Int.add_mul]
  exact Int.mul_le_mul_of_nonneg_right (jobs_add h1 h2) (by have := need_pos hi l1 l2; omega)
theorem dmd_more {l h e x : Int} (hi : Bool) (h1 : 1 ≤ e) (h2 : e ≤ 20) : dmd l h e (x + e) hi = dmd l h e x hi + need l h hi := by
  rw [dmd_need, dmd_need, jobs_more h1 h2, Int.add_mul, Int.one_mul]
theorem dmd_low {l h e x : Int} (hi : Bool) (l1 : 1 ≤ l) (l2 : l ≤ h) (h1 : 1 ≤ e) (h2 : e ≤ 20) (hx : 0 ≤ x) : dmd l h e x false ≤ dmd l h e x hi := by
  rw [dmd_need, dmd_need]
  exact Int.mul_le_mul_of_nonneg_left (need_pos hi l1 l2).2.2 (Int.ediv_nonneg (by omega) (by omega))
theorem dmd_bd {l h e x : Int} (hi : Bool) (l1 : 1 ≤ l) (l2 : l ≤ h) (h20 : h ≤ 20) (h1 : 1 ≤ e) (h2 : e ≤ 20) (hx : 0 ≤ x) (hx' : x ≤ 1000000000) : 0 ≤ dmd l h e x hi ∧ dmd l h e x hi ≤ 1000000020 * 20 := by
  have := jobs_bd hx hx' h1
  have hn := need_pos hi l1 l2
  rw [dmd_need]
  exact mul_small this.1 (by omega) (by omega) (by omega)
theorem dmd_zero {l h e x : Int} (hi : Bool) (l1 : 1 ≤ l) (l2 : l ≤ h) (h1 : 1 ≤ e) (h2 : e ≤ 20) (hx : 0 ≤ x) : dmd l h e x hi = 0 ↔ x = 0 := by
  have hn := need_pos hi l1 l2
  rw [dmd_need]
  constructor
  · intro h0
    rcases Int.mul_eq_zero.1 h0 with h0 | h0
    · by_cases hx1 : 1 ≤ x
      · have := jobs_pos h1 h2 hx1; omega
      · omega
    · omega
  · rintro rfl
    rw [jobs_zero h1 h2, Int.zero_mul]
theorem do_true {l h d e : Int} {c : Bool} {x : Int} (h1 : tvB l h d e c = true) (h2 : 0 ≤ x) (h3 : x ≤ 1000000) (hi : Bool) : doB l h d e c x = true ∧ doN l h d e c x hi = dmd l h e x hi := by
  rcases do_ways l h d e c x hi with h | h | h | h
  · rw [h1] at h; exact absurd h.1 (by simp)
  · exact absurd h2 h.2.1
  · exact absurd h3 h.2.2.1
  · exact ⟨h.2.2.2.2, h.2.2.2.1⟩
end Go.Proofs.YtnfflpaipabbmaaDoor
