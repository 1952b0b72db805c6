/-
  Contracts of ResponseHigh.
-/
import Derived.Test.YtajbkjoblpbjlaaRespL
import Derived.Test.YtajbkjoblpbjlaaCrit
namespace Go.Proofs.Ytajbkjoblpbjlaa
open Go.RowKit
/-- What ResponseHigh answers. -/
def rspH (ts : List Tk) (at_ : Int) : Option Int :=
  if plB ts at_ = true then (match ts[at_.toNat]? with | some t => if t.crit = true then rspL (critL ts) (critL (ts.take at_.toNat)).length else none | none => none) else none
theorem rspH_no {ts : List Tk} {a : Int} (h : plB ts a = false) : rspH ts a = none := if_neg (by simp [h])
theorem rspH_low {ts : List Tk} {k : Nat} {t : Tk} (h : plB ts k = true) (ht : ts[k]? = some t) (hc : t.crit = false) : rspH ts k = none := by
  unfold rspH
  rw [if_pos h]
  simp only [Int.toNat_natCast, ht, hc]
  rfl
theorem rspH_yes {ts : List Tk} {k : Nat} {t : Tk} (h : plB ts k = true) (ht : ts[k]? = some t) (hc : t.crit = true) : rspH ts k = rspL (critL ts) (critL (ts.take k)).length := by
  unfold rspH
  rw [if_pos h]
  simp only [Int.toNat_natCast, ht, hc]
  rfl
theorem svB_take {ts : List Tk} (hv : svB ts = true) (k : Nat) : svB (ts.take k) = true := by
  have hl := svB_len hv
  refine svB_of (by rw [List.length_take]; omega) fun j t ht => ?_
  rw [List.getElem?_take] at ht
  by_cases hj : j < k
  · rw [if_pos hj] at ht; exact svB_ok hv ht
  · rw [if_neg hj] at ht; cases ht
set_option maxHeartbeats 1000000 in
theorem c_impl_ResponseHigh (A : Option Addr) (n c : Nat) (ts : List Tk) (a : Int) (w : World) (h : IsTs w A n ts) (hn : n ≤ 140737488351232) (hnc : n ≤ c) :
    Calls Try.prog 20 #[.slice A n c, .int .i64 a] w (Ret w (.tuple #[.int .i64 (ansN (rspH ts a)), .bool (ansB (rspH ts a))])) := by
  have HL := Lib.hid h.1
  have H := Lib.hid h
  clear h
  cases hp : plB ts a
  · rw [rspH_no hp]
    have HP := Lib.hid hp
    clear hp
    go_enter Try.func20, Try.ntmps20
    go_wp2_with fail
    refine (c_placed A n c ts a _ H.out hn).mono ?_
    rintro r w1 ⟨rfl, hb1⟩
    rw [HP.out]
    have HB := Lib.hid hb1
    clear hb1
    go_wp2
    go_ret2
    exact ⟨rfl, HB.out⟩
  · obtain ⟨hv, k, t, rfl, hk, ht, hok⟩ := plB_at hp
    have hl5 := svB_len hv
    have hn5 : n ≤ 5 := by have := HL.out; omega
    have hkn : k < n := by have := HL.out; omega
    have HP := Lib.hid hp
    have HV := Lib.hid hv
    have HT := Lib.hid ht
    cases hcr : t.crit
    · rw [rspH_low hp ht hcr]
      clear hp hv ht hok
      go_enter Try.func20, Try.ntmps20
      go_wp2_with fail
      refine (c_placed A n c ts k _ H.out hn).mono ?_
      rintro r w1 ⟨rfl, hb1⟩
      rw [HP.out]
      have HB := Lib.hid hb1
      obtain ⟨b, o, rfl, hbb, g0, g1, g2, g3, g4⟩ := (H.out.below hb1).2 k t HT.out
      rw [hcr] at g4
      clear hb1 g0 g1 g2 g3 hcr
      go_wp2
      go_ret2
      exact ⟨rfl, HB.out⟩
    · rw [rspH_yes hp ht hcr]
      have hc1 := critL_len (ts.take k)
      have hc2 := critL_len ts
      have hc3 : (ts.take k).length ≤ 5 := by rw [List.length_take]; omega
      clear hp hv ht hok
      go_enter Try.func20, Try.ntmps20
      go_wp2_with fail
      refine (c_placed A n c ts k _ H.out hn).mono ?_
      rintro r w1 ⟨rfl, hb1⟩
      rw [HP.out]
      have HB1 := Lib.hid hb1
      obtain ⟨b, o, rfl, hbb, g0, g1, g2, g3, g4⟩ := (H.out.below hb1).2 k t HT.out
      rw [hcr] at g4
      clear hb1 g0 g1 g2 g3 hcr
      go_wp2_with fail
      refine (c_impl_CriticalOf _ k _ (ts.take k) _ ((H.out.below HB1.out).take (by omega)) (by omega)).mono ?_
      rintro r w2 ⟨A2, n2, c2, rfl, hb2, ho2⟩
      rw [crA_yes (svB_take HV.out k)] at ho2
      have HN2 := Lib.hid ho2.1
      have HB2 := Lib.hid (below2 HB1.out hb2)
      clear hb2 ho2 hbb g4
      go_wp2_with fail
      refine (c_impl_CriticalOf _ n c ts _ (H.out.below HB2.out) hn).mono ?_
      rintro r w3 ⟨A3, n3, c3, rfl, hb3, ho3⟩
      rw [crA_yes HV.out] at ho3
      have HN3 := Lib.hid ho3.1
      have hn3 : n3 ≤ 5 := by have := ho3.1; omega
      have hnc3 := ho3.cap
      have HB3 := Lib.hid (below2 HB2.out hb3)
      have HO3 := Lib.hid ho3.isTs
      clear hb3 ho3
      go_wp2_with fail
      refine (c_impl_ResponseLow A3 n3 c3 (critL ts) n2 _ HO3.out (by omega) hnc3).mono ?_
      rintro r w4 ⟨rfl, hb4⟩
      have HB4 := Lib.hid (below2 HB3.out hb4)
      clear hb4
      go_wp2
      go_ret2
      refine ⟨?_, HB4.out⟩
      rw [HN2.out]
      rfl
set_option maxHeartbeats 1000000 in
theorem c_spec_ResponseHigh (A : Option Addr) (n c : Nat) (ts : List Tk) (a : Int) (w : World) (h : IsTs w A n ts) (hn : n ≤ 140737488351232) :
    Calls Try.prog 19 #[.slice A n c, .int .i64 a] w (Ret w (.tuple #[.int .i64 (ansN (rspH ts a)), .bool (ansB (rspH ts a))])) := by
  have HL := Lib.hid h.1
  have H := Lib.hid h
  clear h
  cases hp : plB ts a
  · rw [rspH_no hp]
    have HP := Lib.hid hp
    clear hp
    go_enter Try.func19, Try.ntmps19
    go_wp2_with fail
    refine (c_l3At A n c ts a _ H.out hn).mono ?_
    rintro r w1 ⟨rfl, hb1⟩
    rw [HP.out]
    have HB := Lib.hid hb1
    clear hb1
    go_wp2
    go_ret2
    exact ⟨rfl, HB.out⟩
  · obtain ⟨hv, k, t, rfl, hk, ht, hok⟩ := plB_at hp
    have hl5 := svB_len hv
    have hn5 : n ≤ 5 := by have := HL.out; omega
    have hkn : k < n := by have := HL.out; omega
    have HP := Lib.hid hp
    have HV := Lib.hid hv
    have HT := Lib.hid ht
    cases hcr : t.crit
    · rw [rspH_low hp ht hcr]
      clear hp hv ht hok
      go_enter Try.func19, Try.ntmps19
      go_wp2_with fail
      refine (c_l3At A n c ts k _ H.out hn).mono ?_
      rintro r w1 ⟨rfl, hb1⟩
      rw [HP.out]
      have HB := Lib.hid hb1
      obtain ⟨b, o, rfl, hbb, g0, g1, g2, g3, g4⟩ := (H.out.below hb1).2 k t HT.out
      rw [hcr] at g4
      clear hb1 g0 g1 g2 g3 hcr
      go_wp2
      go_ret2
      exact ⟨rfl, HB.out⟩
    · rw [rspH_yes hp ht hcr]
      have hc2 := critL_len ts
      clear hp hv ht hok
      go_enter Try.func19, Try.ntmps19
      go_wp2_with fail
      refine (c_l3At A n c ts k _ H.out hn).mono ?_
      rintro r w1 ⟨rfl, hb1⟩
      rw [HP.out]
      have HB1 := Lib.hid hb1
      obtain ⟨b, o, rfl, hbb, g0, g1, g2, g3, g4⟩ := (H.out.below hb1).2 k t HT.out
      rw [hcr] at g4
      clear hb1 g0 g1 g2 g3 hcr
      go_wp2_with fail
      refine (c_spec_CriticalOf _ n c ts _ (H.out.below HB1.out) hn).mono ?_
      rintro r w3 ⟨A3, n3, c3, rfl, hb3, ho3⟩
      rw [crA_yes HV.out] at ho3
      have hn3 : n3 ≤ 5 := by have := ho3.1; omega
      have HB3 := Lib.hid (below2 HB1.out hb3)
      have HO3 := Lib.hid ho3.isTs
      clear hb3 ho3 hbb g4
      go_wp2
      go_loop [7, 8] (fun u i => ∃ j : Nat, j ≤ k ∧ i = .int .i64 j ∧ u = .int .i64 (critL (ts.take j)).length) (fun _ i => k - (intOf i).toNat)
      case atStart => exact ⟨0, Nat.zero_le _, rfl, rfl⟩
      case round =>
        obtain ⟨j, hj, rfl, rfl⟩ := hrel
        by_cases hlt : j < k
        · obtain ⟨t', ht'⟩ : ∃ t, ts[j]? = some t := at_of (by have := HL.out; omega)
          obtain ⟨b', o', e', hbb', g0, g1, g2, g3, g4⟩ := (H.out.below HB3.out).2 j t' ht'
          injection e' with e'
          injection e' with e1 e2
          subst e1 e2
          have hcl := critL_len (ts.take j)
          have hcl2 : (ts.take j).length ≤ 5 := by rw [List.length_take]; omega
          have HT' := Lib.hid ht'
          cases hcr : t'.crit
          · rw [hcr] at g4
            have HC := Lib.hid (critL_no ht' hcr)
            clear hcr ht' g0 g1 g2 g3
            go_wp2
            go_round
            case rel => exact ⟨j + 1, by omega, by go_num, by rw [HC.out]⟩
            case measure => simp [intOf]; omega
          · rw [hcr] at g4
            have HC := Lib.hid (critL_yes ht' hcr)
            clear hcr ht' g0 g1 g2 g3
            go_wp2
            go_round
            case rel => exact ⟨j + 1, by omega, by go_num, by rw [HC.out, List.length_append]; go_num⟩
            case measure => simp [intOf]; omega
        · have hjk : j = k := by omega
          have HJ := Lib.hid hjk
          clear hjk
          rw [HJ.out]
          go_wp2_with fail
          refine (c_spec_ResponseLow A3 n3 c3 (critL ts) _ _ HO3.out (by omega)).mono ?_
          rintro r w4 ⟨rfl, hb4⟩
          have HB4 := Lib.hid (below2 HB3.out hb4)
          clear hb4
          go_wp2
          go_ret2
          exact ⟨rfl, HB4.out⟩
end Go.Proofs.Ytajbkjoblpbjlaa
