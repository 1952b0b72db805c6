/-
  Plain words on the time after which tasks begin together again.
-/
import Derived.Test.YtnfflpaipabbmaaDoorMath
import Derived.Test.YtnfflpaipabbmaaDoorMathS
namespace Go.Proofs.YtnfflpaipabbmaaDoor
set_option maxRecDepth 100000
def hyStep (n : Int) (t : Tk) : Int := rn n t.every * t.every
def hyl (ts : List Tk) : Int := ts.foldl hyStep 1
theorem hyl_snoc {ts : List Tk} {k : Nat} {t : Tk} (h : ts[k]? = some t) : hyl (ts.take (k + 1)) = hyStep (hyl (ts.take k)) t := by
  unfold hyl
  rw [List.take_add_one, h, List.foldl_append]
  rfl
theorem rn_pos {a b : Int} (ha : 1 ≤ a) : 1 ≤ rn a b ∧ rn a b ≤ a := by
  have h := rd_bd (a := b) (b := a) ha
  have e : rd b a = rn a b := by unfold rd rn; rw [igcd_comm]
  rw [e] at h
  exact h
theorem hyStep_bd {n : Int} {t : Tk} (hn : 1 ≤ n) (h1 : 1 ≤ t.every) (h2 : t.every ≤ 20) : 1 ≤ hyStep n t ∧ hyStep n t ≤ n * 20 := by
  have h := rn_pos (b := t.every) hn
  unfold hyStep
  have p1 : 1 * 1 ≤ rn n t.every * t.every := Int.mul_le_mul h.1 h1 (by omega) (by omega)
  have p2 : rn n t.every * t.every ≤ n * 20 := Int.mul_le_mul h.2 h2 (by omega) (by omega)
  omega
theorem ok_every {t : Tk} (h : t.ok = true) : 1 ≤ t.every ∧ t.every ≤ 20 := by
  have := tvB_true h
  omega
theorem hyl_bd {ts : List Tk} (hv : svB ts = true) (k : Nat) : k ≤ ts.length → 1 ≤ hyl (ts.take k) ∧ hyl (ts.take k) ≤ 20 ^ k := by
  induction k with
  | zero => intro _; simp [hyl]
  | succ k ih =>
    intro hk
    obtain ⟨t, ht⟩ := at_of (ts := ts) (k := k) (by omega)
    have i := ih (by omega)
    have o := ok_every (svB_ok hv ht)
    have s := hyStep_bd i.1 o.1 o.2
    rw [hyl_snoc ht, Int.pow_succ]
    omega
theorem pow_small {k : Nat} (h : k ≤ 5) : (20 : Int) ^ k ≤ 3200000 := by
  have : k = 0 ∨ k = 1 ∨ k = 2 ∨ k = 3 ∨ k = 4 ∨ k = 5 := by omega
  rcases this with rfl | rfl | rfl | rfl | rfl | rfl <;> decide
/-- What HyperOf answers. -/
def hyN (ts : List Tk) : Int := if svB ts = true then hyl ts else 0
end Go.Proofs.YtnfflpaipabbmaaDoor
