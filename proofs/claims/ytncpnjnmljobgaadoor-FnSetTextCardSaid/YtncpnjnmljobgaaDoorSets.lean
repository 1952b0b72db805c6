/-
  Contracts of the functions that draw lists of tasks.
-/
import Derived.Test.YtncpnjnmljobgaaDoorDraw3
import Derived.Test.YtncpnjnmljobgaaDoorOwnAdd
import Derived.Test.YtncpnjnmljobgaaDoorList
import Derived.Deep.DeepCutAuto
namespace Go.Proofs.YtncpnjnmljobgaaDoor
set_option maxRecDepth 100000
open Go.RowKit
/-- A new list of at most m tasks, drawn out of the source g. -/
def DrawnTs (w : World) (e : TypeId) (g : Nat) (A : Option Addr) (n c : Nat) (p q : Int) (m : Nat) (r : Ending) (w' : World) : Prop :=
  ∃ A' n' c' ts, r = .returned (.slice A' n' c') ∧ n' ≤ m ∧ w.grownBy w' (some g) ∧ OwnT w' w.heap.size e A' n' c' ts ∧ ∃ p' : Int, p ≤ p' ∧ p' ≤ q ∧ Rd w' g A n c p'
theorem grown_alloc {w : World} (o : Obj) (g : Nat) : w.grownBy (w.alloc o) (some g) := below_grown (below_alloc o) _
/-- A drawn list in a slot. -/
def SetSt (w : World) (e : TypeId) (g : Nat) (A : Option Addr) (n c : Nat) (p q : Int) (s : Value) (wx : World) : Prop :=
  ∃ A1 k c1 ts, ∃ q' : Int, s = .slice A1 k c1 ∧ k ≤ 6 ∧ p ≤ q' ∧ q' ≤ q ∧ w.grownBy wx (some g) ∧ OwnT wx w.heap.size e A1 k c1 ts ∧ Rd wx g A n c q'
def lenV : Value → Nat
  | .slice _ k _ => k
  | _ => 0
theorem lenV_slice (A : Option Addr) (k c : Nat) : lenV (.slice A k c) = k := rfl
theorem grown_put {w w' : World} {g b k : Nat} (h : w.grownBy w' (some g)) (hb : w.heap.size ≤ b) (t : Tk) :
    w.grownBy (((((w'.setCell ⟨b, k * 5, none⟩ (.int .i64 t.low)).setCell ⟨b, k * 5 + 1, none⟩ (.int .i64 t.high)).setCell ⟨b, k * 5 + 2, none⟩ (.int .i64 t.due)).setCell ⟨b, k * 5 + 3, none⟩ (.int .i64 t.every)).setCell ⟨b, k * 5 + 4, none⟩ (.bool t.crit)) (some g) :=
  grown_at (grown_at (grown_at (grown_at (grown_at h hb _) hb _) hb _) hb _) hb _
theorem rd_put {w : World} {g b k : Nat} {A : Option Addr} {n c : Nat} {p : Int} (h : Rd w g A n c p) (hb : g < b) (t : Tk) :
    Rd (((((w.setCell ⟨b, k * 5, none⟩ (.int .i64 t.low)).setCell ⟨b, k * 5 + 1, none⟩ (.int .i64 t.high)).setCell ⟨b, k * 5 + 2, none⟩ (.int .i64 t.due)).setCell ⟨b, k * 5 + 3, none⟩ (.int .i64 t.every)).setCell ⟨b, k * 5 + 4, none⟩ (.bool t.crit)) g A n c p :=
  ((((h.other (by omega) (by omega) _).other (by omega) (by omega) _).other (by omega) (by omega) _).other (by omega) (by omega) _).other (by omega) (by omega) _
set_option maxHeartbeats 1000000 in
theorem c_l1Set (g : Nat) (A : Option Addr) (n c : Nat) (p : Int) (w : World) (hr : Rd w g A n c p) (hp : 0 ≤ p) (hp' : p ≤ 900000) (hn : n ≤ 2000) :
    Calls Tryd.prog 44 #[.pointer (some ⟨g, 0, none⟩)] w (DrawnTs w 24 g A n c p (p + 50) 5) := by
  have hgl := hr.lt
  obtain ⟨i0, hi, hz0, hz1, hz2⟩ := info_parts info_Task
  have HI := Lib.hid (And.intro hi (And.intro hz0 (And.intro hz1 hz2)))
  clear hi hz0 hz1 hz2
  have H := Lib.hid (hr.below (below_alloc (.cells #[] 24)))
  have HO := Lib.hid (OwnT.empty (e := 24) w (Nat.le_refl _))
  clear hr
  go_enter Tryd.func44, Tryd.ntmps44
  go_wp2_with fail
  refine (c_num [3, 2, 4, 1, 5, 0] (fun x => 0 ≤ x ∧ x ≤ 5) (by simp) g _ A n c p _ _ (by simp) H.out (by omega) (by omega) hn (by simp) (by simp)).mono ?_
  rintro r w1 ⟨m, ⟨hm0, hm1⟩, rfl, hg1, p1, hp1, hp1', hr1⟩
  have HG1 := Lib.hid (grown_trans (grown_alloc (.cells #[] 24) g) hg1)
  have HR1 := Lib.hid hr1
  have HO1 := Lib.hid (HO.out.grown_g hg1 hgl)
  clear hr1 hg1 HO H
  go_wp2
  go_loopw [3, 4] (fun u i wr => ∃ (j : Int) (A1 : Option Addr) (k c1 : Nat) (ts : List Tk) (q : Int), 0 ≤ j ∧ j ≤ 5 ∧ k + j ≤ 5 ∧ i = .int .i64 j ∧ u = .slice A1 k c1 ∧ p ≤ q ∧ q + j * 8 ≤ p + 48 ∧ w.grownBy wr (some g) ∧ OwnT wr w.heap.size 24 A1 k c1 ts ∧ Rd wr g A n c q) (fun _ i _ => (intOf i).toNat)
  case atStart => exact ⟨m, _, 0, 0, [], p1, hm0, hm1, by omega, rfl, rfl, by omega, by omega, HG1.out, HO1.out, HR1.out⟩
  case round =>
    clear HG1 HO1 HR1
    obtain ⟨j, A1, k, c1, ts, q, hj0, hj5, hkj, rfl, rfl, hq0, hq1, hg, ho, hr⟩ := hrel
    have HG := Lib.hid hg
    have HO := Lib.hid ho
    have HR := Lib.hid hr
    clear hg ho hr
    by_cases hlt : 0 < j
    · go_wp2_with fail
      refine (c_l1Task g A n c q _ HR.out (by omega) (by omega) hn).mono ?_
      rintro r w2 ⟨v, ⟨l, h, d, e, cr, rfl⟩, rfl, hg2, q2, hq2, hq2', hr2⟩
      have hba := below_alloc (w := w2) (.cells #[.int .i64 l, .int .i64 h, .int .i64 d, .int .i64 e, .bool cr] 24)
      have HG2 := Lib.hid (grown_below (grown_trans HG.out hg2) hba)
      have HO2 := Lib.hid ((HO.out.grown_g hg2 hgl).below hba)
      have HR2 := Lib.hid (hr2.below hba)
      have HN := Lib.hid (Tk.news w2 24 ⟨l, h, d, e, cr⟩)
      have hsz : w.heap.size ≤ w2.heap.size := by have := HG2.out.size; have := HG.out.size; have := hg2.size; omega
      clear hg2 hr2 hba HG HO HR
      go_wp2_with (at_builtin; refine wpList_append_task rfl _ _ 32 rfl i0 Tryd.underlying32 HI.out.1 HI.out.2.1 HI.out.2.2.1 HI.out.2.2.2 rfl HO2.out (by omega) _ ⟨l, h, d, e, cr⟩ rfl HN.out (by simp; omega) ?_; intro A3 c3 w3 ho3 hg3; have HO3 := Lib.hid ho3; have HG3 := Lib.hid hg3; clear ho3 hg3)
      go_roundw
      case rel => exact ⟨j - 1, A3, k + 1, c3, _, q2, by omega, by omega, by omega, rfl, rfl, by omega, by omega, grown_own HG2.out HO2.out HG3.out (Nat.le_refl _), HO3.out, HR2.out.own HO2.out HG3.out hgl⟩
      case measure => simp [intOf]; omega
    · go_wp2
      go_ret
      exact ⟨_, _, _, ts, rfl, by omega, HG.out, HO.out, q, by omega, by omega, HR.out⟩
set_option maxHeartbeats 2000000 in
theorem c_l1Some (g : Nat) (A : Option Addr) (n c : Nat) (p : Int) (w : World) (hr : Rd w g A n c p) (hp : 0 ≤ p) (hp' : p ≤ 800000) (hn : n ≤ 2000) :
    Calls Tryd.prog 42 #[.pointer (some ⟨g, 0, none⟩)] w (DrawnTs w 24 g A n c p (p + 200) 6) := by
  have hgl := hr.lt
  obtain ⟨i0, hi, hz0, hz1, hz2⟩ := info_parts info_Task
  have HI := Lib.hid (And.intro hi (And.intro hz0 (And.intro hz1 hz2)))
  clear hi hz0 hz1 hz2
  have H := Lib.hid hr
  clear hr
  go_enter Tryd.func42, Tryd.ntmps42
  go_wp2_with fail
  refine (c_l1Set g A n c p _ H.out (by omega) (by omega) hn).mono ?_
  rintro r w1 ⟨A1, n1, c1, ts, rfl, hn1, hg1, ho1, p1, hp1, hp1', hr1⟩
  have HR1 := Lib.hid hr1
  have HG1 := Lib.hid hg1
  have HO1 := Lib.hid ho1
  clear hr1 hg1 ho1 H
  go_upto_if 9 with fail
  go_cut [3] (fun s wx => SetSt w 24 g A n c p (p + 60) s wx)
  case first =>
    by_cases h0 : n1 = 0
    · subst h0
      go_wp2_with fail
      go_meet
      exact ⟨A1, 0, c1, ts, p1, rfl, by omega, by omega, by omega, HG1.out, HO1.out, HR1.out⟩
    · go_wp2_with fail
      refine (c_pick g A n c p1 n1 _ HR1.out (by omega) (by omega) hn (by omega)).mono ?_
      rintro r w2 ⟨v, ⟨hv0, hv1⟩, rfl, hg2, p2, hp2, hp2', hr2⟩
      obtain ⟨k, rfl⟩ := Int.eq_ofNat_of_zero_le hv0
      have hk : k < n1 := by omega
      have ho2 := HO1.out.grown_g hg2 hgl
      obtain ⟨b, rfl, hb0, hb1⟩ := ho2.form (by omega)
      obtain ⟨t, ht⟩ := at_of (ts := ts) (k := k) (by have := ho2.1; omega)
      obtain ⟨y0, y1, y2, y3, y4⟩ := ho2.at_ ht
      have HG2 := Lib.hid (grown_trans HG1.out hg2)
      have HO2 := Lib.hid ho2
      have HR2 := Lib.hid hr2
      have HT := Lib.hid ht
      clear hg2 hr2 ho2 ht hv1 HG1 HO1 HR1
      go_wp2_with fail
      refine (c_l1Wrong g A n c p2 _ _ _ _ _ _ HR2.out (by omega) (by omega) hn).mono ?_
      rintro r w3 ⟨v, ⟨l, h, d, e, cr, rfl⟩, rfl, hg3, p3, hp3, hp3', hr3⟩
      have ho3 := HO2.out.grown_g hg3 hgl
      obtain ⟨z0, z1, z2, z3, z4⟩ := ho3.at_ HT.out
      have f0 := ho3.free (k * 5)
      have f1 := ho3.free (k * 5 + 1)
      have f2 := ho3.free (k * 5 + 2)
      have f3 := ho3.free (k * 5 + 3)
      have f4 := ho3.free (k * 5 + 4)
      have HG3 := Lib.hid (grown_trans HG2.out hg3)
      have HO3 := Lib.hid ho3
      have HR3 := Lib.hid hr3
      clear hg3 hr3 ho3 y0 y1 y2 y3 y4 HG2 HO2 HR2
      go_wp2_with fail
      go_meet
      clear z0 z1 z2 z3 z4 f0 f1 f2 f3 f4
      exact ⟨_, n1, c1, ts.set k ⟨l, h, d, e, cr⟩, p3, rfl, by omega, by omega, by omega, grown_put HG3.out hb0 ⟨l, h, d, e, cr⟩, HO3.out.put hk ⟨l, h, d, e, cr⟩, rd_put HR3.out (by omega) ⟨l, h, d, e, cr⟩⟩
  case rest =>
    clear HG1 HO1 HR1
    obtain ⟨A2, n2, c2, ts2, p2, rfl, hn2, hp2, hp2', hg2, ho2, hr2⟩ := hcut
    have HR2 := Lib.hid hr2
    have HG2 := Lib.hid hg2
    have HO2 := Lib.hid ho2
    clear hr2 hg2 ho2
    obtain ⟨wo, rfl⟩ : ∃ wo : World, wo = wc := ⟨_, rfl⟩
    go_wp2_with fail
    refine (c_pick g A n c p2 24 _ HR2.out (by omega) (by omega) hn (by omega)).mono ?_
    rintro r w3 ⟨v, _, rfl, hg3, p3, hp3, hp3', hr3⟩
    have HG3 := Lib.hid (grown_trans HG2.out hg3)
    have HO3 := Lib.hid (HO2.out.grown_g hg3 hgl)
    have HR3 := Lib.hid hr3
    clear hg3 hr3 HG2 HO2 HR2
    by_cases hv : v = 0
    · subst hv
      go_wp2
      go_loopw [3] (fun u wr => ∃ (A1 : Option Addr) (k c1 : Nat) (ts : List Tk) (q : Int), k ≤ 6 ∧ u = .slice A1 k c1 ∧ p ≤ q ∧ q + (6 - k) * 8 ≤ p + 120 ∧ w.grownBy wr (some g) ∧ OwnT wr w.heap.size 24 A1 k c1 ts ∧ Rd wr g A n c q) (fun u _ => 6 - lenV u)
      case atStart => exact ⟨A2, n2, c2, ts2, p3, hn2, rfl, by omega, by omega, HG3.out, HO3.out, HR3.out⟩
      case round =>
        clear HG3 HO3 HR3
        obtain ⟨A1, k, c1, ts, q, hk6, rfl, hq0, hq1, hg, ho, hr⟩ := hrel
        have HG := Lib.hid hg
        have HO := Lib.hid ho
        have HR := Lib.hid hr
        clear hg ho hr
        by_cases hlt : k ≤ 5
        · go_wp2_with fail
          refine (c_l1Task g A n c q _ HR.out (by omega) (by omega) hn).mono ?_
          rintro r w2 ⟨v, ⟨l, h, d, e, cr, rfl⟩, rfl, hg2, q2, hq2, hq2', hr2⟩
          have hba := below_alloc (w := w2) (.cells #[.int .i64 l, .int .i64 h, .int .i64 d, .int .i64 e, .bool cr] 24)
          have HG2 := Lib.hid (grown_below (grown_trans HG.out hg2) hba)
          have HO2 := Lib.hid ((HO.out.grown_g hg2 hgl).below hba)
          have HR2 := Lib.hid (hr2.below hba)
          have HN := Lib.hid (Tk.news w2 24 ⟨l, h, d, e, cr⟩)
          have hsz : w.heap.size ≤ w2.heap.size := by have := HG.out.size; have := hg2.size; omega
          clear hg2 hr2 hba HG HO HR
          go_wp2_with (at_builtin; refine wpList_append_task rfl _ _ 32 rfl i0 Tryd.underlying32 HI.out.1 HI.out.2.1 HI.out.2.2.1 HI.out.2.2.2 rfl HO2.out (by omega) _ ⟨l, h, d, e, cr⟩ rfl HN.out (by simp; omega) ?_; intro A3 c3 w3 ho3 hg3; have HO3 := Lib.hid ho3; have HG3 := Lib.hid hg3; clear ho3 hg3)
          go_roundw
          case rel => exact ⟨A3, k + 1, c3, _, q2, by omega, rfl, by omega, by omega, grown_own HG2.out HO2.out HG3.out (Nat.le_refl _), HO3.out, HR2.out.own HO2.out HG3.out hgl⟩
          case measure => simp [lenV_slice]; omega
        · go_wp2
          go_ret
          exact ⟨_, _, _, ts, rfl, by omega, HG.out, HO.out, q, by omega, by omega, HR.out⟩
    · have hvb : (v == 0) = false := by rw [beq_eq_false_iff_ne]; exact hv
      go_wp2
      go_ret
      exact ⟨_, _, _, ts2, rfl, by omega, HG3.out, HO3.out, p3, by omega, by omega, HR3.out⟩
/-- An address that can be cut. -/
def AForm (A : Option Addr) : Prop := A = none ∨ ∃ b o, A = some ⟨b, o, none⟩
theorem OwnT.aform {w : World} {B : Nat} {e : TypeId} {A : Option Addr} {n c : Nat} {ts : List Tk} (h : OwnT w B e A n c ts) : AForm A := by
  rcases h.2.2 with ⟨hv, _⟩ | ⟨g, cap, cur, hv, _⟩
  · injection hv with h1 h2 h3
    exact .inl h1
  · injection hv with h1 h2 h3
    exact .inr ⟨g, 0, h1⟩
/-- A drawn list; nothing that was there has turned. -/
def SomeTs (w : World) (r : Ending) (w' : World) : Prop := ∃ A n c ts, r = .returned (.slice A n c) ∧ n ≤ 6 ∧ (n ≤ c ∧ AForm A) ∧ Below w.heap.size w w' ∧ IsTs w' A n ts
set_option maxHeartbeats 400000 in
theorem c_spec_DrawFormatSet (A : Option Addr) (n c : Nat) (w : World) (h : IsBytes w A n c) (hn : n ≤ 1048576) : Calls Tryd.prog 21 #[.slice A n c] w (SomeTs w) := by
  have H := Lib.hid h
  clear h
  go_enter Tryd.func21, Tryd.ntmps21
  go_wp2_with fail
  refine (c_l11Open A n c _ H.out hn).mono ?_
  rintro r w1 ⟨g, n1, c1, rfl, hg, hn1, hb1, hr1⟩
  have HR1 := Lib.hid hr1
  have HB1 := Lib.hid hb1
  clear hr1 hb1
  go_wp2_with fail
  refine (c_l1Some g A n1 c1 0 _ HR1.out (by omega) (by omega) hn1).mono ?_
  rintro r w2 ⟨A2, n2, c2, ts, rfl, hn2, hg2, ho2, p2, hp2, hp2', hr2⟩
  have HB2 := Lib.hid (below_src HB1.out hg hg2)
  have HO2 := Lib.hid ho2
  clear hr2 hg2 ho2
  go_wp2
  go_ret
  exact ⟨_, _, _, ts, rfl, hn2, ⟨HO2.out.cap, HO2.out.aform⟩, HB2.out, HO2.out.isTs⟩
end Go.Proofs.YtncpnjnmljobgaaDoor
