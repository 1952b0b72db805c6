/-
  Plain words on the time after which tasks begin together again: it is the least common multiple.
-/
import Derived.Test.YtnfflpaipabbmaaDoorMathH
namespace Go.Proofs.YtnfflpaipabbmaaDoor
set_option maxRecDepth 100000
def everyOk (ts : List Tk) : Prop := ∀ t ∈ ts, 1 ≤ t.every ∧ t.every ≤ 20
theorem svB_every {ts : List Tk} (h : svB ts = true) : everyOk ts := by
  intro t ht
  obtain ⟨k, hk, rfl⟩ := List.mem_iff_getElem.1 ht
  exact ok_every (svB_ok h (List.getElem?_eq_getElem hk))
theorem hyStep_dvd {n : Int} {t : Tk} (hn : 1 ≤ n) (h1 : 1 ≤ t.every) (m : Int) : hyStep n t ∣ m ↔ n ∣ m ∧ t.every ∣ m := by
  unfold hyStep
  obtain ⟨a, rfl⟩ := nat_of (show 0 ≤ n by omega)
  obtain ⟨b, hb⟩ := nat_of (show 0 ≤ t.every by omega)
  rw [hb, rn_nat, ← Int.natCast_mul]
  have e : a / Nat.gcd a b * b = Nat.lcm a b := by
    rw [Nat.lcm, Nat.div_mul_right_comm (Nat.gcd_dvd_left a b)]
  rw [e, Int.ofNat_dvd_left, Int.ofNat_dvd_left, Int.ofNat_dvd_left, Nat.lcm_dvd_iff]
theorem hyl_fold (ts : List Tk) : ∀ (n : Int), 1 ≤ n → everyOk ts → 1 ≤ ts.foldl hyStep n ∧ ∀ m, ts.foldl hyStep n ∣ m ↔ n ∣ m ∧ ∀ t ∈ ts, t.every ∣ m := by
  induction ts with
  | nil => intro n hn _; exact ⟨hn, fun m => by simp⟩
  | cons t ts ih =>
    intro n hn ho
    have ht := ho t (by simp)
    have hs := hyStep_bd (t := t) hn ht.1 ht.2
    obtain ⟨i1, i2⟩ := ih (hyStep n t) hs.1 (fun x hx => ho x (by simp [hx]))
    refine ⟨i1, fun m => ?_⟩
    rw [List.foldl_cons, i2 m, hyStep_dvd hn ht.1]
    simp only [List.mem_cons, forall_eq_or_imp, and_assoc]
theorem hyl_pos {ts : List Tk} (h : everyOk ts) : 1 ≤ hyl ts := (hyl_fold ts 1 (by omega) h).1
theorem hyl_dvd {ts : List Tk} (h : everyOk ts) (m : Int) : hyl ts ∣ m ↔ ∀ t ∈ ts, t.every ∣ m := by
  have := (hyl_fold ts 1 (by omega) h).2 m
  unfold hyl
  rw [this]
  simp
theorem hyl_div {ts : List Tk} (h : everyOk ts) {t : Tk} (ht : t ∈ ts) : t.every ∣ hyl ts := (hyl_dvd h _).1 (Int.dvd_refl _) t ht
theorem hyl_sub {ts us : List Tk} (h : everyOk ts) (hs : ∀ t ∈ us, ∃ t' ∈ ts, t'.every = t.every) : hyl us ∣ hyl ts ∧ 1 ≤ hyl us ∧ hyl us ≤ hyl ts := by
  have hu : everyOk us := fun t ht => by
    obtain ⟨t', ht', e⟩ := hs t ht
    rw [← e]
    exact h t' ht'
  have hd : hyl us ∣ hyl ts := (hyl_dvd hu _).2 fun t ht => by
    obtain ⟨t', ht', e⟩ := hs t ht
    rw [← e]
    exact hyl_div h ht'
  exact ⟨hd, hyl_pos hu, Int.le_of_dvd (by have := hyl_pos h; omega) hd⟩
theorem hyl_same {ts us : List Tk} (h : everyOk ts) (h1 : ∀ t ∈ us, ∃ t' ∈ ts, t'.every = t.every) (h2 : ∀ t ∈ ts, ∃ t' ∈ us, t'.every = t.every) : hyl us = hyl ts := by
  obtain ⟨a1, a2, a3⟩ := hyl_sub h h1
  have hu : everyOk us := fun t ht => by
    obtain ⟨t', ht', e⟩ := h1 t ht
    rw [← e]
    exact h t' ht'
  obtain ⟨b1, b2, b3⟩ := hyl_sub hu h2
  omega
theorem dvd_mod {a b : Int} (h : b ∣ a) : a % b = 0 := Int.emod_eq_zero_of_dvd h
/-- No smaller number is divided by all. -/
theorem hyl_least {ts : List Tk} (h : everyOk ts) {k : Int} (hk : 1 ≤ k) (hlt : k < hyl ts) : ∃ t ∈ ts, ¬ k % t.every = 0 := by
  refine Classical.byContradiction fun hc => ?_
  have hd : hyl ts ∣ k := (hyl_dvd h k).2 fun t ht => by
    refine Classical.byContradiction fun hn => hc ⟨t, ht, fun e => hn (Int.dvd_of_emod_eq_zero e)⟩
  have := Int.le_of_dvd (by omega) hd
  omega
end Go.Proofs.YtnfflpaipabbmaaDoor
