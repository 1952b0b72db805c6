/-
  Contracts of the functions on responses.
-/
import Derived.Test.YtajbkjoblpbjlaaList
import Derived.Test.YtajbkjoblpbjlaaOwnAdd
import Derived.Test.YtajbkjoblpbjlaaDemand
import Derived.Test.YtajbkjoblpbjlaaMathL
namespace Go.Proofs.Ytajbkjoblpbjlaa
open Go.RowKit
theorem places_ways (ts : List Tk) (n : Nat) (a : Int) (hl : ts.length = n) : (svB ts = false ∧ plB ts a = false) ∨ (svB ts = true ∧ ¬ 0 ≤ a ∧ plB ts a = false) ∨ (svB ts = true ∧ 0 ≤ a ∧ ¬ a < n ∧ plB ts a = false) ∨ (svB ts = true ∧ 0 ≤ a ∧ a < n ∧ plB ts a = true) := by
  have e : plB ts a = (svB ts && (decide (0 ≤ a) && decide (a < ts.length))) := rfl
  rw [e, hl]
  cases svB ts <;> simp <;> omega
set_option maxHeartbeats 400000 in
theorem c_placed (A : Option Addr) (n c : Nat) (ts : List Tk) (a : Int) (w : World) (h : IsTs w A n ts) (hn : n ≤ 140737488351232) :
    Calls Try.prog 46 #[.slice A n c, .int .i64 a] w (Ret w (.bool (plB ts a))) := by
  rcases places_ways ts n a h.1 with ⟨hv, hp⟩ | ⟨hv, h0, hp⟩ | ⟨hv, h0, h1, hp⟩ | ⟨hv, h0, h1, hp⟩
  all_goals
    rw [hp]
    clear hp
    go_enter Try.func46, Try.ntmps46
    go_wp2_with fail
    refine (c_impl_SetValid A n c ts w h hn).mono ?_
    rintro r w1 ⟨rfl, hb1⟩
    go_wp2
    go_ret
    exact ⟨ret_bool (by simp <;> omega), hb1⟩
set_option maxHeartbeats 400000 in
theorem c_l3At (A : Option Addr) (n c : Nat) (ts : List Tk) (a : Int) (w : World) (h : IsTs w A n ts) (hn : n ≤ 140737488351232) :
    Calls Try.prog 44 #[.slice A n c, .int .i64 a] w (Ret w (.bool (plB ts a))) := by
  rcases places_ways ts n a h.1 with ⟨hv, hp⟩ | ⟨hv, h0, hp⟩ | ⟨hv, h0, h1, hp⟩ | ⟨hv, h0, h1, hp⟩
  all_goals
    rw [hp]
    clear hp
    go_enter Try.func44, Try.ntmps44
    go_wp2_with fail
    refine (c_spec_SetValid A n c ts w h hn).mono ?_
    rintro r w1 ⟨rfl, hb1⟩
    go_wp2
    go_ret
    exact ⟨ret_bool (by simp <;> omega), hb1⟩
set_option maxHeartbeats 400000 in
theorem c_rises_impl_ResponseLow_1 (lb : Array Value) (f : Int → Int) (a m : Int) (w : World) (hup : Up f a)
    (hg : ∀ (W : World) (x : Int), Below w.heap.size w W → a ≤ x → x ≤ m → Calls Try.prog 48 (#[.int .i64 x] ++ lb) W (Ret W (.int .i64 (f x)))) :
    Calls Try.prog 40 #[.int .i64 a, .int .i64 m, .func (.func 48) #[] lb] w (Ret w (.tuple #[.int .i64 (ansN (lfix f a m)), .bool (ansB (lfix f a m))])) := by
  have HU := Lib.hid hup
  have HG := Lib.hid hg
  clear hup hg
  go_enter Try.func40, Try.ntmps40
  go_wp2
  go_loopw [8] (fun u wr => ∃ x : Int, u = .int .i64 x ∧ Climb f a x ∧ Below w.heap.size w wr) (fun u _ => (m + 1 - intOf u).toNat)
  case atStart => exact ⟨a, rfl, Climb.start HU.out, Below.refl _ _⟩
  case round =>
    obtain ⟨x, rfl, hcl, hb⟩ := hrel
    have HB := Lib.hid hb
    have HC := Lib.hid hcl
    clear hb hcl
    by_cases hxm : x ≤ m
    · go_wp2_with fail
      refine (HG.out _ x HB.out HC.out.1 hxm).mono ?_
      rintro r w1 ⟨rfl, hb1⟩
      have HB1 := Lib.hid (below2 HB.out hb1)
      clear hb1
      by_cases hfx : f x = x
      · have HF := Lib.hid hfx
        have hE : (f x == x) = true := by rw [beq_iff_eq]; exact hfx
        clear hfx
        go_wp2
        go_ret2
        refine ⟨ret_val ?_, HB1.out⟩
        rw [Climb.found HC.out HF.out hxm]
        rfl
      · have HS := Lib.hid (Climb.step HU.out HC.out hfx)
        have hE : (f x == x) = false := by rw [beq_eq_false_iff_ne]; exact hfx
        clear hfx
        go_wp2
        go_roundw
        case rel => exact ⟨f x, rfl, HS.out.1, HB1.out⟩
        case measure => have := HS.out.2; simp [intOf]; omega
    · go_wp2
      go_ret2
      refine ⟨ret_val ?_, HB.out⟩
      rw [Climb.gone HC.out (by omega)]
      rfl
set_option maxHeartbeats 400000 in
theorem c_rises_impl_ResponseSwitch_1 (lb : Array Value) (f : Int → Int) (a m : Int) (w : World) (hup : Up f a)
    (hg : ∀ (W : World) (x : Int), Below w.heap.size w W → a ≤ x → x ≤ m → Calls Try.prog 41 (#[.int .i64 x] ++ lb) W (Ret W (.int .i64 (f x)))) :
    Calls Try.prog 40 #[.int .i64 a, .int .i64 m, .func (.func 41) #[] lb] w (Ret w (.tuple #[.int .i64 (ansN (lfix f a m)), .bool (ansB (lfix f a m))])) := by
  have HU := Lib.hid hup
  have HG := Lib.hid hg
  clear hup hg
  go_enter Try.func40, Try.ntmps40
  go_wp2
  go_loopw [8] (fun u wr => ∃ x : Int, u = .int .i64 x ∧ Climb f a x ∧ Below w.heap.size w wr) (fun u _ => (m + 1 - intOf u).toNat)
  case atStart => exact ⟨a, rfl, Climb.start HU.out, Below.refl _ _⟩
  case round =>
    obtain ⟨x, rfl, hcl, hb⟩ := hrel
    have HB := Lib.hid hb
    have HC := Lib.hid hcl
    clear hb hcl
    by_cases hxm : x ≤ m
    · go_wp2_with fail
      refine (HG.out _ x HB.out HC.out.1 hxm).mono ?_
      rintro r w1 ⟨rfl, hb1⟩
      have HB1 := Lib.hid (below2 HB.out hb1)
      clear hb1
      by_cases hfx : f x = x
      · have HF := Lib.hid hfx
        have hE : (f x == x) = true := by rw [beq_iff_eq]; exact hfx
        clear hfx
        go_wp2
        go_ret2
        refine ⟨ret_val ?_, HB1.out⟩
        rw [Climb.found HC.out HF.out hxm]
        rfl
      · have HS := Lib.hid (Climb.step HU.out HC.out hfx)
        have hE : (f x == x) = false := by rw [beq_eq_false_iff_ne]; exact hfx
        clear hfx
        go_wp2
        go_roundw
        case rel => exact ⟨f x, rfl, HS.out.1, HB1.out⟩
        case measure => have := HS.out.2; simp [intOf]; omega
    · go_wp2
      go_ret2
      refine ⟨ret_val ?_, HB.out⟩
      rw [Climb.gone HC.out (by omega)]
      rfl
end Go.Proofs.Ytajbkjoblpbjlaa
