/-
  The reference's parser of numbers.
-/
import Derived.Test.YtncpnjnmljobgaaDoorMathP
import Derived.Test.YtncpnjnmljobgaaDoorText
import Derived.Deep.Cut
namespace Go.Proofs.YtncpnjnmljobgaaDoor
set_option maxRecDepth 100000
open Go.RowKit
theorem byte_at' {s : ByteArray} {l : List UInt8} (h : s.toList = l) {k : Nat} (hk : k < s.size) : l[k]? = some s[k] := by
  rw [← h, ByteArray.toList_eq]
  have hk' : k < s.data.toList.length := by rw [Array.length_toList]; exact hk
  rw [List.getElem?_eq_getElem hk', Array.getElem_toList]
  rfl
theorem size_toList {s : ByteArray} {l : List UInt8} (h : s.toList = l) : s.size = l.length := by
  rw [← h, ByteArray.toList_eq, Array.length_toList]
  rfl
theorem dec_inj {n k : Int} (n0 : 0 ≤ n) (n1 : n ≤ 99) (k0 : 0 ≤ k) (k1 : k ≤ 99) (h : dec n = dec k) : n = k := by
  rcases dec_two n0 n1 with ⟨x, e, hx, hn⟩ | ⟨x, y, e, hx, hy, hn⟩ <;> rcases dec_two k0 k1 with ⟨x', e', hx', hn'⟩ | ⟨x', y', e', hx', hy', hn'⟩ <;> rw [e, e'] at h
  · injection h with h
    subst h
    omega
  · injection h with _ h
    cases h
  · injection h with _ h
    cases h
  · injection h with h1 h2
    injection h2 with h2
    subst h1 h2
    omega
/-- What l11Num answers: some number; that of the numeral where the text is one. -/
def NumC (w : World) (s : ByteArray) (r : Ending) (w' : World) : Prop :=
  ∃ (v : Int) (b : Bool), r = .returned (.tuple #[.int .i64 v, .bool b]) ∧ Below w.heap.size w w' ∧ ∀ n : Int, 0 ≤ n → n ≤ 99 → s = bs (dec n) → v = n ∧ b = true
def NumAny (w : World) (r : Ending) (w' : World) : Prop := (∃ v b, r = .returned (.tuple #[.int .i64 v, .bool b])) ∧ Below w.heap.size w w'
theorem ret_pair {a b : Int} {c : Bool} (h : a = b) : Ending.returned (.tuple #[.int .i64 a, .bool c]) = Ending.returned (.tuple #[.int .i64 b, .bool c]) := by rw [h]
set_option maxHeartbeats 1000000 in
/-- At a numeral of one digit or two. -/
theorem c_l11Num_dg (s : ByteArray) (n : Int) (w : World) (h0 : 0 ≤ n) (h1 : n ≤ 99) (hs : s = bs (dec n)) : Calls Tryd.prog 40 #[.string s] w fun r w' => r = .returned (.tuple #[.int .i64 n, .bool true]) ∧ w = w' := by
  have hl : s.toList = dec n := by rw [hs]; exact ByteArray.toList_mk _
  have hz := size_toList hl
  clear hs
  rcases dec_two h0 h1 with ⟨x, e, hx, hn⟩ | ⟨x, y, e, hx, hy, hn⟩
  · rw [e] at hl hz
    have hsz : s.size = 1 := by simpa using hz
    have k0 : 0 < s.size := by omega
    have e0 : ((s[0]'k0).toNat : Int) = 48 + n := by
      have := byte_at' hl k0
      simp only [List.getElem?_cons_zero, Option.some.injEq] at this
      rw [← this]; exact hx
    clear e hx hl hz
    by_cases hn0 : n = 0
    · subst hn0
      go_enter Tryd.func40, Tryd.ntmps40
      go_wp2
      refine wp_loop_rounds 2 ?_
      rw [rounds_succ]
      go_wp2
      rw [rounds_succ]
      go_wp2
      go_ret2
      exact ⟨rfl, rfl⟩
    · go_enter Tryd.func40, Tryd.ntmps40
      go_wp2
      refine wp_loop_rounds 2 ?_
      rw [rounds_succ]
      go_wp2
      rw [rounds_succ]
      go_wp2
      go_ret2
      exact ⟨ret_pair (by omega), rfl⟩
  · rw [e] at hl hz
    have hsz : s.size = 2 := by simpa using hz
    have k0 : 0 < s.size := by omega
    have k1 : 1 < s.size := by omega
    obtain ⟨a, ha⟩ : ∃ a, a = n / 10 := ⟨_, rfl⟩
    obtain ⟨d, hd⟩ : ∃ d, d = n % 10 := ⟨_, rfl⟩
    have e0 : ((s[0]'k0).toNat : Int) = 48 + a := by
      have := byte_at' hl k0
      simp only [List.getElem?_cons_zero, Option.some.injEq] at this
      rw [← this, ha]; exact hx
    have e1 : ((s[1]'k1).toNat : Int) = 48 + d := by
      have := byte_at' hl k1
      simp only [List.getElem?_cons_succ, List.getElem?_cons_zero, Option.some.injEq] at this
      rw [← this, hd]; exact hy
    have a1 : 1 ≤ a := by omega
    have a2 : a ≤ 9 := by omega
    have d1 : 0 ≤ d := by omega
    have d2 : d ≤ 9 := by omega
    obtain rfl : n = a * 10 + d := by omega
    clear e hx hy hl hz ha hd h0 h1 hn
    go_enter Tryd.func40, Tryd.ntmps40
    go_wp2
    refine wp_loop_rounds 3 ?_
    rw [rounds_succ]
    go_wp2
    rw [rounds_succ]
    go_wp2
    rw [rounds_succ]
    go_wp2
    go_ret2
    exact ⟨ret_pair (by omega), rfl⟩
set_option maxHeartbeats 1000000 in
/-- At any text. -/
theorem c_l11Num_any (s : ByteArray) (w : World) (hs : s.size ≤ 2097152) : Calls Tryd.prog 40 #[.string s] w (NumAny w) := by
  by_cases h0 : s.size = 0
  · go_enter Tryd.func40, Tryd.ntmps40
    go_wp2
    go_ret2
    exact ⟨⟨_, _, rfl⟩, Below.refl _ _⟩
  · have k0 : 0 < s.size := by omega
    have k0' : (0 : Int) < s.size := by omega
    cases hneg : (((s[0]'k0).toNat : Int) == 45)
    · go_enter Tryd.func40, Tryd.ntmps40
      go_upto_region 4 with (fail)
      obtain ⟨z, hz⟩ : ∃ z, z = s := ⟨_, rfl⟩
      obtain ⟨N, hN⟩ : ∃ N, z.size = N := ⟨_, rfl⟩
      subst hz
      clear h0 k0'
      clear hneg
      by_cases hN0 : N = 0
      · first
          | (exfalso; omega)
          | (subst hN0
             go_wp2
             go_ret2
             exact ⟨⟨_, _, rfl⟩, Below.refl _ _⟩)
      by_cases hN17 : 17 < N
      · have hN17' : (17 : Int) < (N : Int) := by omega
        have hNp : (0 : Int) < (N : Int) := by omega
        go_wp2
        go_ret2
        exact ⟨⟨_, _, rfl⟩, Below.refl _ _⟩
      · have q0 : ((N : Int) == 0) = false := by rw [beq_eq_false_iff_ne]; omega
        have q1 : decide ((17 : Int) < (N : Int)) = false := decide_eq_false (by omega)
        have hN17' : (N : Int) ≤ 17 := by omega
        have hNp : (0 : Int) < (N : Int) := by omega
        have hz0 : 0 < z.size := by omega
        clear hN17
        have ways : ((((z[0]'hz0).toNat : Int) == 48) = false) ∨ ((((z[0]'hz0).toNat : Int) == 48) = true ∧ (decide ((1 : Int) < (N : Int)) = true ∨ decide ((1 : Int) < (N : Int)) = false)) := by
          cases (((z[0]'hz0).toNat : Int) == 48)
          · exact .inl rfl
          · refine .inr ⟨rfl, ?_⟩
            cases decide ((1 : Int) < (N : Int))
            · exact .inr rfl
            · exact .inl rfl
        rcases ways with hw | ⟨hw, hv | hv⟩
        all_goals
          go_wp2
          first
            | (go_ret2; exact ⟨⟨_, _, rfl⟩, Below.refl _ _⟩)
            | (go_loopw [2, 3, 5, 6] (fun a b u i wr => ∃ (k : Nat) (x : Int), k ≤ N ∧ a = .int .i64 0 ∧ b = .bool false ∧ i = .int .i64 k ∧ u = .int .i64 x ∧ Hid (Below w.heap.size w wr)) (fun _ _ _ i _ => N - (intOf i).toNat)
               case atStart => exact ⟨0, 0, Nat.zero_le _, rfl, rfl, rfl, rfl, Below.refl _ _⟩
               case round =>
                 obtain ⟨k, x, hk, rfl, rfl, rfl, rfl, hb⟩ := hrel
                 by_cases hlt : k < N
                 · have hkz : k < z.size := by omega
                   cases hd1 : decide (((z[k]'hkz).toNat : Int) < 48)
                   · cases hd2 : decide ((57 : Int) < ((z[k]'hkz).toNat : Int))
                     · go_wp2
                       clear hd1 hd2
                       go_roundw
                       case rel => exact ⟨k + 1, _, by omega, rfl, rfl, by go_num, rfl, hb⟩
                       case measure => simp [intOf]; omega
                     · go_wp2
                       go_ret2
                       exact ⟨⟨_, _, rfl⟩, hb.out⟩
                   · go_wp2
                     go_ret2
                     exact ⟨⟨_, _, rfl⟩, hb.out⟩
                 · go_wp2
                   go_ret2
                   exact ⟨⟨_, _, rfl⟩, hb.out⟩)
    · go_enter Tryd.func40, Tryd.ntmps40
      go_upto_region 4 with (fail)
      have hzs : (s.extract 1 s.size).size = s.size - 1 := by rw [ByteArray.size_extract]; omega
      generalize s.extract 1 s.size = z at *
      have hzb : z.size ≤ 2097152 := by omega
      clear hzs
      obtain ⟨N, hN⟩ : ∃ N, z.size = N := ⟨_, rfl⟩
      clear h0 k0'
      clear hneg
      by_cases hN0 : N = 0
      · first
          | (exfalso; omega)
          | (subst hN0
             go_wp2
             go_ret2
             exact ⟨⟨_, _, rfl⟩, Below.refl _ _⟩)
      by_cases hN17 : 17 < N
      · have hN17' : (17 : Int) < (N : Int) := by omega
        have hNp : (0 : Int) < (N : Int) := by omega
        go_wp2
        go_ret2
        exact ⟨⟨_, _, rfl⟩, Below.refl _ _⟩
      · have q0 : ((N : Int) == 0) = false := by rw [beq_eq_false_iff_ne]; omega
        have q1 : decide ((17 : Int) < (N : Int)) = false := decide_eq_false (by omega)
        have hN17' : (N : Int) ≤ 17 := by omega
        have hNp : (0 : Int) < (N : Int) := by omega
        have hz0 : 0 < z.size := by omega
        clear hN17
        have ways : ((((z[0]'hz0).toNat : Int) == 48) = false) ∨ ((((z[0]'hz0).toNat : Int) == 48) = true ∧ (decide ((1 : Int) < (N : Int)) = true ∨ decide ((1 : Int) < (N : Int)) = false)) := by
          cases (((z[0]'hz0).toNat : Int) == 48)
          · exact .inl rfl
          · refine .inr ⟨rfl, ?_⟩
            cases decide ((1 : Int) < (N : Int))
            · exact .inr rfl
            · exact .inl rfl
        rcases ways with hw | ⟨hw, hv | hv⟩
        all_goals
          go_wp2
          first
            | (go_ret2; exact ⟨⟨_, _, rfl⟩, Below.refl _ _⟩)
            | (go_loopw [2, 3, 5, 6] (fun a b u i wr => ∃ (k : Nat) (x : Int), k ≤ N ∧ a = .int .i64 0 ∧ b = .bool false ∧ i = .int .i64 k ∧ u = .int .i64 x ∧ Hid (Below w.heap.size w wr)) (fun _ _ _ i _ => N - (intOf i).toNat)
               case atStart => exact ⟨0, 0, Nat.zero_le _, rfl, rfl, rfl, rfl, Below.refl _ _⟩
               case round =>
                 obtain ⟨k, x, hk, rfl, rfl, rfl, rfl, hb⟩ := hrel
                 by_cases hlt : k < N
                 · have hkz : k < z.size := by omega
                   cases hd1 : decide (((z[k]'hkz).toNat : Int) < 48)
                   · cases hd2 : decide ((57 : Int) < ((z[k]'hkz).toNat : Int))
                     · go_wp2
                       clear hd1 hd2
                       go_roundw
                       case rel => exact ⟨k + 1, _, by omega, rfl, rfl, by go_num, rfl, hb⟩
                       case measure => simp [intOf]; omega
                     · go_wp2
                       go_ret2
                       exact ⟨⟨_, _, rfl⟩, hb.out⟩
                   · go_wp2
                     go_ret2
                     exact ⟨⟨_, _, rfl⟩, hb.out⟩
                 · go_wp2
                   go_ret2
                   exact ⟨⟨_, _, rfl⟩, hb.out⟩)
theorem c_l11Num (s : ByteArray) (w : World) (hs : s.size ≤ 2097152) : Calls Tryd.prog 40 #[.string s] w (NumC w s) := by
  by_cases h : ∃ n : Int, 0 ≤ n ∧ n ≤ 99 ∧ s = bs (dec n)
  · obtain ⟨n, h0, h1, rfl⟩ := h
    refine (c_l11Num_dg _ n w h0 h1 rfl).mono ?_
    rintro r w' ⟨rfl, rfl⟩
    refine ⟨n, true, rfl, Below.refl _ _, fun k k0 k1 e => ⟨?_, rfl⟩⟩
    exact dec_inj h0 h1 k0 k1 (bs_inj e)
  · refine (c_l11Num_any s w hs).mono ?_
    rintro r w' ⟨⟨v, b, rfl⟩, hb⟩
    exact ⟨v, b, rfl, hb, fun k k0 k1 e => absurd ⟨k, k0, k1, e⟩ h⟩
end Go.Proofs.YtncpnjnmljobgaaDoor
