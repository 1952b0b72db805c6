/-
  Contracts of the functions on shares.
-/
import Derived.Test.YtbcionecepdkfaaShare
namespace Go.Proofs.Ytbcionecepdkfaa
open Go.RowKit
theorem c_isNaN (a : Int) (w : World) : Calls Try.prog 47 #[.int .i64 a] w fun r w' => r = .returned (.bool false) ∧ w = w' := by
  go_enter Try.func47, Try.ntmps47
  go_wp2
  go_ret
  exact ⟨rfl, rfl⟩
def cmpI (a b : Int) : Int := if a < b then -1 else if b < a then 1 else 0
theorem c_Compare (a b : Int) (w : World) : Calls Try.prog 32 #[.int .i64 a, .int .i64 b] w fun r w' => r = .returned (.int .i64 (cmpI a b)) ∧ w = w' := by
  by_cases h1 : a < b
  · have e : cmpI a b = -1 := if_pos h1
    rw [e]
    go_enter Try.func32, Try.ntmps32
    go_wp2_with (go_at_call 47; refine (c_isNaN _ _).mono ?_; rintro r w' ⟨rfl, rfl⟩)
    go_ret
    exact ⟨rfl, rfl⟩
  · by_cases h2 : b < a
    · have e : cmpI a b = 1 := by unfold cmpI; rw [if_neg h1, if_pos h2]
      rw [e]
      go_enter Try.func32, Try.ntmps32
      go_wp2_with (go_at_call 47; refine (c_isNaN _ _).mono ?_; rintro r w' ⟨rfl, rfl⟩)
      go_ret
      exact ⟨rfl, rfl⟩
    · have e : cmpI a b = 0 := by unfold cmpI; rw [if_neg h1, if_neg h2]
      rw [e]
      go_enter Try.func32, Try.ntmps32
      go_wp2_with (go_at_call 47; refine (c_isNaN _ _).mono ?_; rintro r w' ⟨rfl, rfl⟩)
      go_ret
      exact ⟨rfl, rfl⟩
theorem l2_world {W w3 : World} {n : Nat} (h : Below (W.drewN n).heap.size (W.drewN n) w3) : Below W.heap.size W w3 := (below_drewN (Below.refl _ _) _).trans h
set_option maxHeartbeats 400000 in
theorem c_l2Add (a b c d : Int) (w : World) (h1 : shB a b = true) (h2 : shB c d = true) : Calls Try.prog 42 #[.agg #[.int .i64 a, .int .i64 b], .agg #[.int .i64 c, .int .i64 d]] w (Ret w (.tuple #[.agg #[.int .i64 (adN a b c d), .int .i64 (adD a b c d)], .bool (adB a b c d)])) := by
  obtain ⟨m1, m2, m3⟩ := l2_make h1 h2
  rw [← m1, ← m2, ← m3]
  obtain ⟨s1, s2⟩ := l2_sm h1 h2
  rw [← s1, ← s2]
  clear m1 m2 m3 s1 s2
  obtain ⟨a0, a1, b0, b1, _, _⟩ := shB_msB h1
  obtain ⟨c0, c1, d0, d1, _, _⟩ := shB_msB h2
  obtain ⟨⟨p1, p2⟩, ⟨p3, p4⟩, ⟨p5, p6⟩, ⟨p7, p8⟩, ⟨p9, p10⟩⟩ := l2_bd a0 a1 b0 b1 c0 c1 d0 d1
  have hb0 : 0 ≤ b := by omega
  have hd0 : 0 ≤ d := by omega
  have g1 : b.tdiv (igcd b d) = rn b d := rn_eq hb0
  have g2 : d.tdiv (igcd b d) = rd b d := rd_eq hd0
  have g3 : ¬ igcd b d = 0 := by have := igcd_pos (x := b) d0; omega
  have g4 : IntKind.i64.wrap (rn b d) = rn b d := IntWalk.i64_in _ (by omega)
  have g5 : IntKind.i64.wrap (rd b d) = rd b d := IntWalk.i64_in _ (by omega)
  have g6 : IntKind.i64.wrap (rn b d * d) = rn b d * d := IntWalk.i64_in _ (by omega)
  have g7 : IntKind.i64.wrap (a * rd b d) = a * rd b d := IntWalk.i64_in _ (by omega)
  have g8 : IntKind.i64.wrap (c * rn b d) = c * rn b d := IntWalk.i64_in _ (by omega)
  have g9 : IntKind.i64.wrap (a * rd b d + c * rn b d) = a * rd b d + c * rn b d := IntWalk.i64_in _ (by omega)
  go_enter Try.func42, Try.ntmps42
  go_wp2_with fail
  refine (c_l1Gcd _ _ _ hb0 hd0 (by omega) (by omega)).mono ?_
  rintro r w1 ⟨rfl, rfl⟩
  go_wp2_with fail
  go_quiet (fail)
  go_wp2_with fail
  go_quiet (fail)
  go_wp2_with fail
  refine (c_l1Gcd _ _ _ (by omega) (by omega) (by omega) (by omega)).mono ?_
  rintro r w1 ⟨rfl, rfl⟩
  clear g1 g2 g3 g4 g5 g6 g7 g8 g9
  rw [igcd_comm (rn b d * d) (a * rd b d + c * rn b d)]
  have g1 : (a * rd b d + c * rn b d).tdiv (igcd (a * rd b d + c * rn b d) (rn b d * d)) = rn (a * rd b d + c * rn b d) (rn b d * d) := rn_eq (by omega)
  have g2 : (rn b d * d).tdiv (igcd (a * rd b d + c * rn b d) (rn b d * d)) = rd (a * rd b d + c * rn b d) (rn b d * d) := rd_eq (by omega)
  have g3 : ¬ igcd (a * rd b d + c * rn b d) (rn b d * d) = 0 := by have := igcd_pos (x := a * rd b d + c * rn b d) p9; omega
  have g4 : IntKind.i64.wrap (rn (a * rd b d + c * rn b d) (rn b d * d)) = rn (a * rd b d + c * rn b d) (rn b d * d) := IntWalk.i64_in _ (by have := rn_bd (a := a * rd b d + c * rn b d) (by omega) p9; omega)
  have g5 : IntKind.i64.wrap (rd (a * rd b d + c * rn b d) (rn b d * d)) = rd (a * rd b d + c * rn b d) (rn b d * d) := IntWalk.i64_in _ (by have := rd_bd (a := a * rd b d + c * rn b d) p9; omega)
  go_wp2_with fail
  go_region_with (go_at_call 41; refine (c_spec_MakeShare _ _ _).mono ?_; rintro r w3 ⟨rfl, hb3⟩; have hb4 := l2_world hb3; clear hb3; obtain ⟨hc1, hf1⟩ := bcell hb4; obtain ⟨hz1, hz2, hz3⟩ := lt3 hb4)
  have hB := below2 (below2 (below_alloc _) (below2 (below_alloc _) (below_alloc _))) hb4
  go_wp2
  refine bodyPost_ret (v := .tuple #[.agg #[.int .i64 (msN (rn (l2N a b c d) (l2D b d)) (rd (l2N a b c d) (l2D b d))), .int .i64 (msD (rn (l2N a b c d) (l2D b d)) (rd (l2N a b c d) (l2D b d)))], .bool (msB (rn (l2N a b c d) (l2D b d)) (rd (l2N a b c d) (l2D b d)))]) (by simp [results, Try.results42, go_sem, hc1, l2N, l2D]) rfl ⟨rfl, ?_⟩
  go_grown
end Go.Proofs.Ytbcionecepdkfaa
