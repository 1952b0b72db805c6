/-
  Plain words on texts: decimal numerals, the text of a task, of a set, of a share.
-/
import Derived.Test.YtncpnjnmljobgaaDoorMath
import Derived.Lib.ItoaNum
namespace Go.Proofs.YtncpnjnmljobgaaDoor
set_option maxRecDepth 100000
/-- A list of bytes as a string. -/
def bs (l : List UInt8) : ByteArray := ⟨l.toArray⟩
theorem bs_append (a b : List UInt8) : bs a ++ bs b = bs (a ++ b) := by
  apply ByteArray.ext
  rw [ByteArray.data_append]
  simp [bs]
theorem bs_list (s : ByteArray) : bs s.data.toList = s := by
  unfold bs
  rfl
theorem bs_size (l : List UInt8) : (bs l).size = l.length := by
  show l.toArray.size = _
  simp
theorem bs_inj {a b : List UInt8} (h : bs a = bs b) : a = b := by
  have h2 := congrArg (fun s => s.data.toList) h
  simpa [bs] using h2
/-- The decimal numeral. -/
def dec (n : Int) : List UInt8 := Lib.decDigits n.toNat
def tEvery : List UInt8 := [32, 101, 118, 101, 114, 121, 32]
def tBy : List UInt8 := [32, 98, 121, 32]
def fmtL (l h d e : Int) (c : Bool) : List UInt8 := dec l ++ ((if c = true then 47 :: dec h else []) ++ (tEvery ++ (dec e ++ (if d < e then tBy ++ dec d else []))))
/-- What FormatTask answers. -/
def fmtT (t : Tk) : List UInt8 := if t.ok = true then fmtL t.low t.high t.due t.every t.crit else []
theorem fmtT_yes {t : Tk} (h : t.ok = true) : fmtT t = fmtL t.low t.high t.due t.every t.crit := if_pos h
theorem fmtT_no {t : Tk} (h : t.ok = false) : fmtT t = [] := if_neg (by simp [h])
theorem dec_small {n : Int} (h : ¬ 9 < n) : dec n = [UInt8.ofNat (48 + n.toNat)] := by
  unfold dec
  exact Lib.decDigits_one (by omega)
theorem dec_step {n : Int} (h : 9 < n) : dec n = dec (n / 10) ++ [UInt8.ofNat (48 + (n % 10).toNat)] := by
  unfold dec
  conv => lhs; rw [Lib.decDigits, dif_neg (by omega)]
  rw [show n.toNat / 10 = (n / 10).toNat by omega, show n.toNat % 10 = (n % 10).toNat by omega]
theorem decDigits_len : ∀ (k u : Nat), u < 10 ^ (k + 1) → (Lib.decDigits u).length ≤ k + 1 := by
  intro k
  induction k with
  | zero =>
    intro u hu
    rw [Lib.decDigits_one (by simpa using hu)]
    simp
  | succ k ih =>
    intro u hu
    by_cases h : u < 10
    · rw [Lib.decDigits_one h]
      simp
    · rw [Lib.decDigits, dif_neg h, List.length_append]
      have := ih (u / 10) (by rw [Nat.pow_succ] at hu; omega)
      simp
      omega
theorem dec_len {n : Int} (h : n ≤ 4000000000) : (dec n).length ≤ 10 := decDigits_len 9 n.toNat (by simp; omega)
theorem dec_len2 {n : Int} (h : n ≤ 99) : (dec n).length ≤ 2 := decDigits_len 1 n.toNat (by simp; omega)
theorem dec_ne (n : Int) : dec n ≠ [] := by
  by_cases h : 9 < n
  · rw [dec_step h]; simp
  · rw [dec_small h]; simp
end Go.Proofs.YtncpnjnmljobgaaDoor
