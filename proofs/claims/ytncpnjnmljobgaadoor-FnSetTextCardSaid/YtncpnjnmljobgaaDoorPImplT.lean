/-
  The program's parser of tasks, whole (printed by gen_pimpl.py).
-/
import Derived.Test.YtncpnjnmljobgaaDoorPCand
namespace Go.Proofs.YtncpnjnmljobgaaDoor
set_option maxRecDepth 100000
open Go.RowKit
def St0 (W : World) (G B2 : Nat) (a b d e : Int) (c : Bool) : Prop := Five W B2 (.int .i64 a) (.int .i64 b) (.int .i64 d) (.int .i64 e) (.bool c) ∧ Free5 W B2 ∧ Five W G (.int .i64 0) (.int .i64 0) (.int .i64 0) (.int .i64 0) (.bool false) ∧ Free5 W G
/-- The state of the parser: its task under way in block B2, its result in block G. -/
def St (w W : World) (G B2 : Nat) (a b d e : Int) (c : Bool) : Prop := St0 W G B2 a b d e c ∧ Below w.heap.size w W ∧ w.heap.size ≤ G ∧ w.heap.size ≤ B2 ∧ B2 ≠ G ∧ Env w
section
variable {w W W' : World} {G B2 : Nat} {a b d e : Int} {c : Bool}
theorem St.call (h : St w W G B2 a b d e c) (hb : Below W.heap.size W W') : St w W' G B2 a b d e c := by
  obtain ⟨⟨h1, h2, h3, h4⟩, h5, h6, h7, h8, h9⟩ := h
  exact ⟨⟨h1.below hb, h2.below h1 hb, h3.below hb, h4.below h3 hb⟩, below2 h5 hb, h6, h7, h8, h9⟩
theorem St.env (h : St w W G B2 a b d e c) : Env W := by
  obtain ⟨_, h5, _, _, _, h9⟩ := h
  exact h9.below h5
theorem St.s0 (h : St w W G B2 a b d e c) (v : Int) : St w (W.setCell ⟨B2, 0, none⟩ (.int .i64 v)) G B2 v b d e c := by
  obtain ⟨⟨h1, h2, h3, h4⟩, h5, h6, h7, h8, h9⟩ := h
  exact ⟨⟨h1.s0 _, h2.set, h3.other h8, h4.set⟩, below_at h5 h7, h6, h7, h8, h9⟩
theorem St.s1 (h : St w W G B2 a b d e c) (v : Int) : St w (W.setCell ⟨B2, 1, none⟩ (.int .i64 v)) G B2 a v d e c := by
  obtain ⟨⟨h1, h2, h3, h4⟩, h5, h6, h7, h8, h9⟩ := h
  exact ⟨⟨h1.s1 _, h2.set, h3.other h8, h4.set⟩, below_at h5 h7, h6, h7, h8, h9⟩
theorem St.s2 (h : St w W G B2 a b d e c) (v : Int) : St w (W.setCell ⟨B2, 2, none⟩ (.int .i64 v)) G B2 a b v e c := by
  obtain ⟨⟨h1, h2, h3, h4⟩, h5, h6, h7, h8, h9⟩ := h
  exact ⟨⟨h1.s2 _, h2.set, h3.other h8, h4.set⟩, below_at h5 h7, h6, h7, h8, h9⟩
theorem St.s3 (h : St w W G B2 a b d e c) (v : Int) : St w (W.setCell ⟨B2, 3, none⟩ (.int .i64 v)) G B2 a b d v c := by
  obtain ⟨⟨h1, h2, h3, h4⟩, h5, h6, h7, h8, h9⟩ := h
  exact ⟨⟨h1.s3 _, h2.set, h3.other h8, h4.set⟩, below_at h5 h7, h6, h7, h8, h9⟩
theorem St.s4 (h : St w W G B2 a b d e c) (v : Bool) : St w (W.setCell ⟨B2, 4, none⟩ (.bool v)) G B2 a b d e v := by
  obtain ⟨⟨h1, h2, h3, h4⟩, h5, h6, h7, h8, h9⟩ := h
  exact ⟨⟨h1.s4 _, h2.set, h3.other h8, h4.set⟩, below_at h5 h7, h6, h7, h8, h9⟩
end
set_option maxHeartbeats 8000000 in
theorem c_impl_ParseTask (s : ByteArray) (w : World) (hE : Env w) (hs : s.size ≤ 1048576) : Calls Tryd.prog 10 #[.string s] w (Parsed w s.data.toList) := by
  have HZ := Lib.hid hs
  have HE := Lib.hid hE
  rcases h1 : Lib.cut s.data.toList tEvery with ⟨n1, r1, i1⟩
  have H1 := Lib.hid h1
  have CS := Lib.hid (c_SCut' s ⟨#[32, 101, 118, 101, 114, 121, 32]⟩ n1 r1 i1 (by omega) h1)
  have hz := cut_small h1
  have hsz : s.data.toList.length = s.size := by rw [Array.length_toList]; rfl
  have HZ1 := Lib.hid (show (bs n1).size ≤ 1048576 ∧ (bs r1).size ≤ 1048576 by rw [bs_size, bs_size]; omega)
  clear h1 hz hsz hE hs
  go_enter Tryd.func10, Tryd.ntmps10
  go_wp2_with fail
  refine (CS.out _ (HE.out.below (below_alloc _))).mono ?_
  rintro r w1 ⟨rfl, hb1⟩
  have HC1 := Lib.hid hb1
  have HB1 := Lib.hid (below2 (below_alloc (w := w) _) hb1)
  clear hb1 CS
  cases i1
  · obtain ⟨K5, q0, q1, q2, q3, q4⟩ := made5 HC1.out
    have HK5 := Lib.hid K5
    obtain ⟨k0, k1, k2, k3, k4, k5⟩ := K5
    go_wp2
    obtain ⟨r0, r1, r2, r3, r4, _⟩ := set5 HK5.out (.int .i64 0) (.int .i64 0) (.int .i64 0) (.int .i64 0) (.bool false)
    exact bodyPost_ret (v := .tuple #[.agg #[.int .i64 0, .int .i64 0, .int .i64 0, .int .i64 0, .bool false], .bool false]) (by simp [results, Tryd.results10, go_sem, r0, r1, r2, r3, r4]) rfl (parsed_no HB1.out (Nat.le_refl _) fun u hu hl => by have h := cand1 hu hl H1.out; cases h)
  rcases h2 : Lib.cut n1 [47] with ⟨lo, hi, i2⟩
  rcases h3 : Lib.cut r1 tBy with ⟨ev, du, i3⟩
  have CS2 := Lib.hid (c_SCut' (bs n1) ⟨#[47]⟩ lo hi i2 (by have := HZ1.out; omega) (by rw [bsD]; exact h2))
  have CS3 := Lib.hid (c_SCut' (bs r1) ⟨#[32, 98, 121, 32]⟩ ev du i3 (by have := HZ1.out; omega) (by rw [bsD]; exact h3))
  have HZ2 := Lib.hid (show (bs lo).size ≤ 1048576 ∧ (bs hi).size ≤ 1048576 ∧ (bs ev).size ≤ 1048576 ∧ (bs du).size ≤ 1048576 by
    have e1 := HZ1.out
    have e2 := cut_small h2
    have e3 := cut_small h3
    rw [bs_size] at e1
    rw [bs_size] at e1
    rw [bs_size, bs_size, bs_size, bs_size]
    omega)
  have HU0 := Lib.hid (fun (u : Tk) (hu : u.ok = true) (hl : fmtT u = s.data.toList) => cand hu hl H1.out h2 h3)
  clear h2 h3
  go_wp2_with fail
  refine (CS2.out _ ((HE.out.below HB1.out).below (below_alloc _))).mono ?_
  rintro r w2 ⟨rfl, hb2⟩
  have HC2 := Lib.hid hb2
  have HB2 := Lib.hid (below2 HB1.out (below2 (below_alloc _) hb2))
  clear hb2
  go_wp2_with fail
  refine (CS3.out _ (HE.out.below HB2.out)).mono ?_
  rintro r w3 ⟨rfl, hb3⟩
  have HC3 := Lib.hid (below2 HC2.out hb3)
  have HB3 := Lib.hid (below2 HB2.out hb3)
  clear hb3
  have HA := Lib.hid (fun (x : List UInt8) (hx : (bs x).size ≤ 1048576) (W : World) (hW : Env W) => c_Atoi' (bs x) (aV x) W hW (by omega) (by rw [bsD]))
  have hlt : w.heap.size < w1.heap.size := lt1 HC1.out
  have hS : St w w3 w.heap.size w1.heap.size 0 0 0 0 false := ⟨⟨(made5 HC3.out).1, (made5 HC3.out).2, (made5 (below2 HC1.out (below2 (below_alloc _) HC3.out))).1, (made5 (below2 HC1.out (below2 (below_alloc _) HC3.out))).2⟩, HB3.out, Nat.le_refl _, Nat.le_of_lt hlt, by omega, HE.out⟩
  have HS := Lib.hid hS
  clear hS hlt HC1 HC2 HC3 HB1 HB2 HB3 CS2 CS3
  have hne1 : ¬ w.heap.size = w1.heap.size := fun h => HS.out.2.2.2.2.1 h.symm
  have hne2 : ¬ w1.heap.size = w.heap.size := HS.out.2.2.2.2.1
  generalize w.heap.size = G at HS hne1 hne2 ⊢
  generalize w1.heap.size = B2 at HS hne1 hne2 ⊢
  generalize hva : aV lo = a at HU0
  obtain ⟨⟨t0, t1, t2, t3, t4, t5⟩, ⟨z0, z1, z2, z3, z4⟩, ⟨k0, k1, k2, k3, k4, k5⟩, ⟨q0, q1, q2, q3, q4⟩⟩ := HS.out.1
  have HA1 := Lib.hid (HA.out lo HZ2.out.1)
  have HA2 := Lib.hid (HA.out hi HZ2.out.2.1)
  have HA3 := Lib.hid (HA.out ev HZ2.out.2.2.1)
  have HA4 := Lib.hid (HA.out du HZ2.out.2.2.2)
  rw [hva] at HA1
  generalize aV hi = ah at HU0 HA2
  generalize aV ev = e at HU0 HA3
  generalize aV du = ad at HU0 HA4
  clear HA HZ2 HZ1 H1 hva
  go_wp2_with fail
  refine (HA1.out _ HS.out.env).mono ?_
  rintro r W' ⟨er, rfl, hb9⟩
  have HS' := Lib.hid (HS.out.call hb9)
  clear hb9 HS
  clear t0 t1 t2 t3 t4 t5 z0 z1 z2 z3 z4 k0 k1 k2 k3 k4 k5 q0 q1 q2 q3 q4
  have HS := HS'
  clear HS'
  obtain ⟨⟨t0, t1, t2, t3, t4, t5⟩, ⟨z0, z1, z2, z3, z4⟩, ⟨k0, k1, k2, k3, k4, k5⟩, ⟨q0, q1, q2, q3, q4⟩⟩ := HS.out.1
  go_upto_region 9 with (fail)
  clear t0 t1 t2 t3 t4 t5 z0 z1 z2 z3 z4 k0 k1 k2 k3 k4 k5 q0 q1 q2 q3 q4
  have HS' := Lib.hid ((HS.out.s0 a).s1 a)
  clear HS
  generalize (W'.setCell ⟨B2, 0, none⟩ (.int .i64 a)).setCell ⟨B2, 1, none⟩ (.int .i64 a) = W at HS' ⊢
  have HS := HS'
  clear HS'
  obtain ⟨⟨t0, t1, t2, t3, t4, t5⟩, ⟨z0, z1, z2, z3, z4⟩, ⟨k0, k1, k2, k3, k4, k5⟩, ⟨q0, q1, q2, q3, q4⟩⟩ := HS.out.1
  cases i2
  · go_upto_region 12 with (fail)
    clear t0 t1 t2 t3 t4 t5 z0 z1 z2 z3 z4 k0 k1 k2 k3 k4 k5 q0 q1 q2 q3 q4
    have HS' := Lib.hid (HS.out.s4 false)
    clear HS
    generalize W.setCell ⟨B2, 4, none⟩ (.bool false) = W at HS' ⊢
    have HS := HS'
    clear HS'
    obtain ⟨⟨t0, t1, t2, t3, t4, t5⟩, ⟨z0, z1, z2, z3, z4⟩, ⟨k0, k1, k2, k3, k4, k5⟩, ⟨q0, q1, q2, q3, q4⟩⟩ := HS.out.1
    go_wp2_with fail
    refine (HA3.out _ HS.out.env).mono ?_
    rintro r W' ⟨er3, rfl, hb9⟩
    have HS' := Lib.hid (HS.out.call hb9)
    clear hb9 HS
    clear t0 t1 t2 t3 t4 t5 z0 z1 z2 z3 z4 k0 k1 k2 k3 k4 k5 q0 q1 q2 q3 q4
    have HS := HS'
    clear HS'
    obtain ⟨⟨t0, t1, t2, t3, t4, t5⟩, ⟨z0, z1, z2, z3, z4⟩, ⟨k0, k1, k2, k3, k4, k5⟩, ⟨q0, q1, q2, q3, q4⟩⟩ := HS.out.1
    go_upto_region 14 with (fail)
    clear t0 t1 t2 t3 t4 t5 z0 z1 z2 z3 z4 k0 k1 k2 k3 k4 k5 q0 q1 q2 q3 q4
    have HS' := Lib.hid ((HS.out.s3 e).s2 e)
    clear HS
    generalize (W'.setCell ⟨B2, 3, none⟩ (.int .i64 e)).setCell ⟨B2, 2, none⟩ (.int .i64 e) = W at HS' ⊢
    have HS := HS'
    clear HS'
    obtain ⟨⟨t0, t1, t2, t3, t4, t5⟩, ⟨z0, z1, z2, z3, z4⟩, ⟨k0, k1, k2, k3, k4, k5⟩, ⟨q0, q1, q2, q3, q4⟩⟩ := HS.out.1
    cases i3
    · have HU := Lib.hid (show ∀ u : Tk, u.ok = true → fmtT u = s.data.toList → u = ⟨a, a, e, e, false⟩ from fun u hu hl => HU0.out u hu hl)
      clear HU0
      have HV0 := Lib.hid (c_impl_TaskValid a a e e false)
      cases hv : tvB a a e e false
      · rw [hv] at HV0
        have HV := Lib.hid hv
        clear hv
        go_wp2_with fail
        refine (HV0.out _).mono ?_
        rintro r W' ⟨rfl, hb9⟩
        have HS' := Lib.hid (HS.out.call hb9)
        clear hb9 HS
        clear t0 t1 t2 t3 t4 t5 z0 z1 z2 z3 z4 k0 k1 k2 k3 k4 k5 q0 q1 q2 q3 q4
        have HS := HS'
        clear HS'
        obtain ⟨⟨t0, t1, t2, t3, t4, t5⟩, ⟨z0, z1, z2, z3, z4⟩, ⟨k0, k1, k2, k3, k4, k5⟩, ⟨q0, q1, q2, q3, q4⟩⟩ := HS.out.1
        go_wp2
        obtain ⟨r0, r1, r2, r3, r4, _⟩ := set5 HS.out.1.2.2.1 (.int .i64 0) (.int .i64 0) (.int .i64 0) (.int .i64 0) (.bool false)
        exact bodyPost_ret (v := .tuple #[.agg #[.int .i64 0, .int .i64 0, .int .i64 0, .int .i64 0, .bool false], .bool false]) (by simp [results, Tryd.results10, go_sem, r0, r1, r2, r3, r4]) rfl (parsed_no HS.out.2.1 HS.out.2.2.1 fun u hu hl => by have h := (HU.out u hu hl).symm; subst h; have h := HV.out.symm.trans hu; cases h)
      · rw [hv] at HV0
        have HV := Lib.hid hv
        clear hv
        go_wp2_with fail
        refine (HV0.out _).mono ?_
        rintro r W' ⟨rfl, hb9⟩
        have HS' := Lib.hid (HS.out.call hb9)
        clear hb9 HS
        clear t0 t1 t2 t3 t4 t5 z0 z1 z2 z3 z4 k0 k1 k2 k3 k4 k5 q0 q1 q2 q3 q4
        have HS := HS'
        clear HS'
        obtain ⟨⟨t0, t1, t2, t3, t4, t5⟩, ⟨z0, z1, z2, z3, z4⟩, ⟨k0, k1, k2, k3, k4, k5⟩, ⟨q0, q1, q2, q3, q4⟩⟩ := HS.out.1
        go_wp2_with fail
        refine (c_impl_FormatTask a a e e false _).mono ?_
        rintro r W' ⟨rfl, hb9⟩
        have HS' := Lib.hid (HS.out.call hb9)
        clear hb9 HS
        clear t0 t1 t2 t3 t4 t5 z0 z1 z2 z3 z4 k0 k1 k2 k3 k4 k5 q0 q1 q2 q3 q4
        have HS := HS'
        clear HS'
        obtain ⟨⟨t0, t1, t2, t3, t4, t5⟩, ⟨z0, z1, z2, z3, z4⟩, ⟨k0, k1, k2, k3, k4, k5⟩, ⟨q0, q1, q2, q3, q4⟩⟩ := HS.out.1
        by_cases heq : fmtT ⟨a, a, e, e, false⟩ = s.data.toList
        · have HEQ := Lib.hid heq
          have ht1 : ((bs (fmtT ⟨a, a, e, e, false⟩)).toList == s.toList) = true := by rw [beq_iff_eq, bsL, ByteArray.toList_eq]; exact heq
          clear heq
          go_wp2
          obtain ⟨r0, r1, r2, r3, r4, _⟩ := set5 HS.out.1.2.2.1 (.int .i64 a) (.int .i64 a) (.int .i64 e) (.int .i64 e) (.bool false)
          exact bodyPost_ret (v := .tuple #[.agg #[.int .i64 a, .int .i64 a, .int .i64 e, .int .i64 e, .bool false], .bool true]) (by simp [results, Tryd.results10, go_sem, r0, r1, r2, r3, r4]) rfl (parsed_yes HS.out.2.1 HS.out.2.2.1 (.inl ⟨rfl, HV.out, HEQ.out⟩))
        · have HEQ := Lib.hid heq
          have ht1 : ((bs (fmtT ⟨a, a, e, e, false⟩)).toList == s.toList) = false := by rw [beq_eq_false_iff_ne, bsL, ByteArray.toList_eq]; exact heq
          clear heq
          go_wp2
          obtain ⟨r0, r1, r2, r3, r4, _⟩ := set5 HS.out.1.2.2.1 (.int .i64 0) (.int .i64 0) (.int .i64 0) (.int .i64 0) (.bool false)
          exact bodyPost_ret (v := .tuple #[.agg #[.int .i64 0, .int .i64 0, .int .i64 0, .int .i64 0, .bool false], .bool false]) (by simp [results, Tryd.results10, go_sem, r0, r1, r2, r3, r4]) rfl (parsed_no HS.out.2.1 HS.out.2.2.1 fun u hu hl => by have h := (HU.out u hu hl).symm; subst h; exact HEQ.out hl)
    · have HU := Lib.hid (show ∀ u : Tk, u.ok = true → fmtT u = s.data.toList → u = ⟨a, a, ad, e, false⟩ from fun u hu hl => HU0.out u hu hl)
      clear HU0
      go_wp2_with fail
      refine (HA4.out _ HS.out.env).mono ?_
      rintro r W' ⟨er4, rfl, hb9⟩
      have HS' := Lib.hid (HS.out.call hb9)
      clear hb9 HS
      clear t0 t1 t2 t3 t4 t5 z0 z1 z2 z3 z4 k0 k1 k2 k3 k4 k5 q0 q1 q2 q3 q4
      have HS := HS'
      clear HS'
      obtain ⟨⟨t0, t1, t2, t3, t4, t5⟩, ⟨z0, z1, z2, z3, z4⟩, ⟨k0, k1, k2, k3, k4, k5⟩, ⟨q0, q1, q2, q3, q4⟩⟩ := HS.out.1
      go_upto_region 16 with (fail)
      clear t0 t1 t2 t3 t4 t5 z0 z1 z2 z3 z4 k0 k1 k2 k3 k4 k5 q0 q1 q2 q3 q4
      have HS' := Lib.hid (HS.out.s2 ad)
      clear HS
      generalize W'.setCell ⟨B2, 2, none⟩ (.int .i64 ad) = W at HS' ⊢
      have HS := HS'
      clear HS'
      obtain ⟨⟨t0, t1, t2, t3, t4, t5⟩, ⟨z0, z1, z2, z3, z4⟩, ⟨k0, k1, k2, k3, k4, k5⟩, ⟨q0, q1, q2, q3, q4⟩⟩ := HS.out.1
      have HV0 := Lib.hid (c_impl_TaskValid a a ad e false)
      cases hv : tvB a a ad e false
      · rw [hv] at HV0
        have HV := Lib.hid hv
        clear hv
        go_wp2_with fail
        refine (HV0.out _).mono ?_
        rintro r W' ⟨rfl, hb9⟩
        have HS' := Lib.hid (HS.out.call hb9)
        clear hb9 HS
        clear t0 t1 t2 t3 t4 t5 z0 z1 z2 z3 z4 k0 k1 k2 k3 k4 k5 q0 q1 q2 q3 q4
        have HS := HS'
        clear HS'
        obtain ⟨⟨t0, t1, t2, t3, t4, t5⟩, ⟨z0, z1, z2, z3, z4⟩, ⟨k0, k1, k2, k3, k4, k5⟩, ⟨q0, q1, q2, q3, q4⟩⟩ := HS.out.1
        go_wp2
        obtain ⟨r0, r1, r2, r3, r4, _⟩ := set5 HS.out.1.2.2.1 (.int .i64 0) (.int .i64 0) (.int .i64 0) (.int .i64 0) (.bool false)
        exact bodyPost_ret (v := .tuple #[.agg #[.int .i64 0, .int .i64 0, .int .i64 0, .int .i64 0, .bool false], .bool false]) (by simp [results, Tryd.results10, go_sem, r0, r1, r2, r3, r4]) rfl (parsed_no HS.out.2.1 HS.out.2.2.1 fun u hu hl => by have h := (HU.out u hu hl).symm; subst h; have h := HV.out.symm.trans hu; cases h)
      · rw [hv] at HV0
        have HV := Lib.hid hv
        clear hv
        go_wp2_with fail
        refine (HV0.out _).mono ?_
        rintro r W' ⟨rfl, hb9⟩
        have HS' := Lib.hid (HS.out.call hb9)
        clear hb9 HS
        clear t0 t1 t2 t3 t4 t5 z0 z1 z2 z3 z4 k0 k1 k2 k3 k4 k5 q0 q1 q2 q3 q4
        have HS := HS'
        clear HS'
        obtain ⟨⟨t0, t1, t2, t3, t4, t5⟩, ⟨z0, z1, z2, z3, z4⟩, ⟨k0, k1, k2, k3, k4, k5⟩, ⟨q0, q1, q2, q3, q4⟩⟩ := HS.out.1
        go_wp2_with fail
        refine (c_impl_FormatTask a a ad e false _).mono ?_
        rintro r W' ⟨rfl, hb9⟩
        have HS' := Lib.hid (HS.out.call hb9)
        clear hb9 HS
        clear t0 t1 t2 t3 t4 t5 z0 z1 z2 z3 z4 k0 k1 k2 k3 k4 k5 q0 q1 q2 q3 q4
        have HS := HS'
        clear HS'
        obtain ⟨⟨t0, t1, t2, t3, t4, t5⟩, ⟨z0, z1, z2, z3, z4⟩, ⟨k0, k1, k2, k3, k4, k5⟩, ⟨q0, q1, q2, q3, q4⟩⟩ := HS.out.1
        by_cases heq : fmtT ⟨a, a, ad, e, false⟩ = s.data.toList
        · have HEQ := Lib.hid heq
          have ht1 : ((bs (fmtT ⟨a, a, ad, e, false⟩)).toList == s.toList) = true := by rw [beq_iff_eq, bsL, ByteArray.toList_eq]; exact heq
          clear heq
          go_wp2
          obtain ⟨r0, r1, r2, r3, r4, _⟩ := set5 HS.out.1.2.2.1 (.int .i64 a) (.int .i64 a) (.int .i64 ad) (.int .i64 e) (.bool false)
          exact bodyPost_ret (v := .tuple #[.agg #[.int .i64 a, .int .i64 a, .int .i64 ad, .int .i64 e, .bool false], .bool true]) (by simp [results, Tryd.results10, go_sem, r0, r1, r2, r3, r4]) rfl (parsed_yes HS.out.2.1 HS.out.2.2.1 (.inl ⟨rfl, HV.out, HEQ.out⟩))
        · have HEQ := Lib.hid heq
          have ht1 : ((bs (fmtT ⟨a, a, ad, e, false⟩)).toList == s.toList) = false := by rw [beq_eq_false_iff_ne, bsL, ByteArray.toList_eq]; exact heq
          clear heq
          go_wp2
          obtain ⟨r0, r1, r2, r3, r4, _⟩ := set5 HS.out.1.2.2.1 (.int .i64 0) (.int .i64 0) (.int .i64 0) (.int .i64 0) (.bool false)
          exact bodyPost_ret (v := .tuple #[.agg #[.int .i64 0, .int .i64 0, .int .i64 0, .int .i64 0, .bool false], .bool false]) (by simp [results, Tryd.results10, go_sem, r0, r1, r2, r3, r4]) rfl (parsed_no HS.out.2.1 HS.out.2.2.1 fun u hu hl => by have h := (HU.out u hu hl).symm; subst h; exact HEQ.out hl)
  · go_wp2_with fail
    refine (HA2.out _ HS.out.env).mono ?_
    rintro r W' ⟨er2, rfl, hb9⟩
    have HS' := Lib.hid (HS.out.call hb9)
    clear hb9 HS
    clear t0 t1 t2 t3 t4 t5 z0 z1 z2 z3 z4 k0 k1 k2 k3 k4 k5 q0 q1 q2 q3 q4
    have HS := HS'
    clear HS'
    obtain ⟨⟨t0, t1, t2, t3, t4, t5⟩, ⟨z0, z1, z2, z3, z4⟩, ⟨k0, k1, k2, k3, k4, k5⟩, ⟨q0, q1, q2, q3, q4⟩⟩ := HS.out.1
    go_upto_region 12 with (fail)
    clear t0 t1 t2 t3 t4 t5 z0 z1 z2 z3 z4 k0 k1 k2 k3 k4 k5 q0 q1 q2 q3 q4
    have HS' := Lib.hid ((HS.out.s1 ah).s4 true)
    clear HS
    generalize (W'.setCell ⟨B2, 1, none⟩ (.int .i64 ah)).setCell ⟨B2, 4, none⟩ (.bool true) = W at HS' ⊢
    have HS := HS'
    clear HS'
    obtain ⟨⟨t0, t1, t2, t3, t4, t5⟩, ⟨z0, z1, z2, z3, z4⟩, ⟨k0, k1, k2, k3, k4, k5⟩, ⟨q0, q1, q2, q3, q4⟩⟩ := HS.out.1
    go_wp2_with fail
    refine (HA3.out _ HS.out.env).mono ?_
    rintro r W' ⟨er3, rfl, hb9⟩
    have HS' := Lib.hid (HS.out.call hb9)
    clear hb9 HS
    clear t0 t1 t2 t3 t4 t5 z0 z1 z2 z3 z4 k0 k1 k2 k3 k4 k5 q0 q1 q2 q3 q4
    have HS := HS'
    clear HS'
    obtain ⟨⟨t0, t1, t2, t3, t4, t5⟩, ⟨z0, z1, z2, z3, z4⟩, ⟨k0, k1, k2, k3, k4, k5⟩, ⟨q0, q1, q2, q3, q4⟩⟩ := HS.out.1
    go_upto_region 14 with (fail)
    clear t0 t1 t2 t3 t4 t5 z0 z1 z2 z3 z4 k0 k1 k2 k3 k4 k5 q0 q1 q2 q3 q4
    have HS' := Lib.hid ((HS.out.s3 e).s2 e)
    clear HS
    generalize (W'.setCell ⟨B2, 3, none⟩ (.int .i64 e)).setCell ⟨B2, 2, none⟩ (.int .i64 e) = W at HS' ⊢
    have HS := HS'
    clear HS'
    obtain ⟨⟨t0, t1, t2, t3, t4, t5⟩, ⟨z0, z1, z2, z3, z4⟩, ⟨k0, k1, k2, k3, k4, k5⟩, ⟨q0, q1, q2, q3, q4⟩⟩ := HS.out.1
    cases i3
    · have HU := Lib.hid (show ∀ u : Tk, u.ok = true → fmtT u = s.data.toList → u = ⟨a, ah, e, e, true⟩ from fun u hu hl => HU0.out u hu hl)
      clear HU0
      have HV0 := Lib.hid (c_impl_TaskValid a ah e e true)
      cases hv : tvB a ah e e true
      · rw [hv] at HV0
        have HV := Lib.hid hv
        clear hv
        go_wp2_with fail
        refine (HV0.out _).mono ?_
        rintro r W' ⟨rfl, hb9⟩
        have HS' := Lib.hid (HS.out.call hb9)
        clear hb9 HS
        clear t0 t1 t2 t3 t4 t5 z0 z1 z2 z3 z4 k0 k1 k2 k3 k4 k5 q0 q1 q2 q3 q4
        have HS := HS'
        clear HS'
        obtain ⟨⟨t0, t1, t2, t3, t4, t5⟩, ⟨z0, z1, z2, z3, z4⟩, ⟨k0, k1, k2, k3, k4, k5⟩, ⟨q0, q1, q2, q3, q4⟩⟩ := HS.out.1
        go_wp2
        obtain ⟨r0, r1, r2, r3, r4, _⟩ := set5 HS.out.1.2.2.1 (.int .i64 0) (.int .i64 0) (.int .i64 0) (.int .i64 0) (.bool false)
        exact bodyPost_ret (v := .tuple #[.agg #[.int .i64 0, .int .i64 0, .int .i64 0, .int .i64 0, .bool false], .bool false]) (by simp [results, Tryd.results10, go_sem, r0, r1, r2, r3, r4]) rfl (parsed_no HS.out.2.1 HS.out.2.2.1 fun u hu hl => by have h := (HU.out u hu hl).symm; subst h; have h := HV.out.symm.trans hu; cases h)
      · rw [hv] at HV0
        have HV := Lib.hid hv
        clear hv
        go_wp2_with fail
        refine (HV0.out _).mono ?_
        rintro r W' ⟨rfl, hb9⟩
        have HS' := Lib.hid (HS.out.call hb9)
        clear hb9 HS
        clear t0 t1 t2 t3 t4 t5 z0 z1 z2 z3 z4 k0 k1 k2 k3 k4 k5 q0 q1 q2 q3 q4
        have HS := HS'
        clear HS'
        obtain ⟨⟨t0, t1, t2, t3, t4, t5⟩, ⟨z0, z1, z2, z3, z4⟩, ⟨k0, k1, k2, k3, k4, k5⟩, ⟨q0, q1, q2, q3, q4⟩⟩ := HS.out.1
        go_wp2_with fail
        refine (c_impl_FormatTask a ah e e true _).mono ?_
        rintro r W' ⟨rfl, hb9⟩
        have HS' := Lib.hid (HS.out.call hb9)
        clear hb9 HS
        clear t0 t1 t2 t3 t4 t5 z0 z1 z2 z3 z4 k0 k1 k2 k3 k4 k5 q0 q1 q2 q3 q4
        have HS := HS'
        clear HS'
        obtain ⟨⟨t0, t1, t2, t3, t4, t5⟩, ⟨z0, z1, z2, z3, z4⟩, ⟨k0, k1, k2, k3, k4, k5⟩, ⟨q0, q1, q2, q3, q4⟩⟩ := HS.out.1
        by_cases heq : fmtT ⟨a, ah, e, e, true⟩ = s.data.toList
        · have HEQ := Lib.hid heq
          have ht1 : ((bs (fmtT ⟨a, ah, e, e, true⟩)).toList == s.toList) = true := by rw [beq_iff_eq, bsL, ByteArray.toList_eq]; exact heq
          clear heq
          go_wp2
          obtain ⟨r0, r1, r2, r3, r4, _⟩ := set5 HS.out.1.2.2.1 (.int .i64 a) (.int .i64 ah) (.int .i64 e) (.int .i64 e) (.bool true)
          exact bodyPost_ret (v := .tuple #[.agg #[.int .i64 a, .int .i64 ah, .int .i64 e, .int .i64 e, .bool true], .bool true]) (by simp [results, Tryd.results10, go_sem, r0, r1, r2, r3, r4]) rfl (parsed_yes HS.out.2.1 HS.out.2.2.1 (.inl ⟨rfl, HV.out, HEQ.out⟩))
        · have HEQ := Lib.hid heq
          have ht1 : ((bs (fmtT ⟨a, ah, e, e, true⟩)).toList == s.toList) = false := by rw [beq_eq_false_iff_ne, bsL, ByteArray.toList_eq]; exact heq
          clear heq
          go_wp2
          obtain ⟨r0, r1, r2, r3, r4, _⟩ := set5 HS.out.1.2.2.1 (.int .i64 0) (.int .i64 0) (.int .i64 0) (.int .i64 0) (.bool false)
          exact bodyPost_ret (v := .tuple #[.agg #[.int .i64 0, .int .i64 0, .int .i64 0, .int .i64 0, .bool false], .bool false]) (by simp [results, Tryd.results10, go_sem, r0, r1, r2, r3, r4]) rfl (parsed_no HS.out.2.1 HS.out.2.2.1 fun u hu hl => by have h := (HU.out u hu hl).symm; subst h; exact HEQ.out hl)
    · have HU := Lib.hid (show ∀ u : Tk, u.ok = true → fmtT u = s.data.toList → u = ⟨a, ah, ad, e, true⟩ from fun u hu hl => HU0.out u hu hl)
      clear HU0
      go_wp2_with fail
      refine (HA4.out _ HS.out.env).mono ?_
      rintro r W' ⟨er4, rfl, hb9⟩
      have HS' := Lib.hid (HS.out.call hb9)
      clear hb9 HS
      clear t0 t1 t2 t3 t4 t5 z0 z1 z2 z3 z4 k0 k1 k2 k3 k4 k5 q0 q1 q2 q3 q4
      have HS := HS'
      clear HS'
      obtain ⟨⟨t0, t1, t2, t3, t4, t5⟩, ⟨z0, z1, z2, z3, z4⟩, ⟨k0, k1, k2, k3, k4, k5⟩, ⟨q0, q1, q2, q3, q4⟩⟩ := HS.out.1
      go_upto_region 16 with (fail)
      clear t0 t1 t2 t3 t4 t5 z0 z1 z2 z3 z4 k0 k1 k2 k3 k4 k5 q0 q1 q2 q3 q4
      have HS' := Lib.hid (HS.out.s2 ad)
      clear HS
      generalize W'.setCell ⟨B2, 2, none⟩ (.int .i64 ad) = W at HS' ⊢
      have HS := HS'
      clear HS'
      obtain ⟨⟨t0, t1, t2, t3, t4, t5⟩, ⟨z0, z1, z2, z3, z4⟩, ⟨k0, k1, k2, k3, k4, k5⟩, ⟨q0, q1, q2, q3, q4⟩⟩ := HS.out.1
      have HV0 := Lib.hid (c_impl_TaskValid a ah ad e true)
      cases hv : tvB a ah ad e true
      · rw [hv] at HV0
        have HV := Lib.hid hv
        clear hv
        go_wp2_with fail
        refine (HV0.out _).mono ?_
        rintro r W' ⟨rfl, hb9⟩
        have HS' := Lib.hid (HS.out.call hb9)
        clear hb9 HS
        clear t0 t1 t2 t3 t4 t5 z0 z1 z2 z3 z4 k0 k1 k2 k3 k4 k5 q0 q1 q2 q3 q4
        have HS := HS'
        clear HS'
        obtain ⟨⟨t0, t1, t2, t3, t4, t5⟩, ⟨z0, z1, z2, z3, z4⟩, ⟨k0, k1, k2, k3, k4, k5⟩, ⟨q0, q1, q2, q3, q4⟩⟩ := HS.out.1
        go_wp2
        obtain ⟨r0, r1, r2, r3, r4, _⟩ := set5 HS.out.1.2.2.1 (.int .i64 0) (.int .i64 0) (.int .i64 0) (.int .i64 0) (.bool false)
        exact bodyPost_ret (v := .tuple #[.agg #[.int .i64 0, .int .i64 0, .int .i64 0, .int .i64 0, .bool false], .bool false]) (by simp [results, Tryd.results10, go_sem, r0, r1, r2, r3, r4]) rfl (parsed_no HS.out.2.1 HS.out.2.2.1 fun u hu hl => by have h := (HU.out u hu hl).symm; subst h; have h := HV.out.symm.trans hu; cases h)
      · rw [hv] at HV0
        have HV := Lib.hid hv
        clear hv
        go_wp2_with fail
        refine (HV0.out _).mono ?_
        rintro r W' ⟨rfl, hb9⟩
        have HS' := Lib.hid (HS.out.call hb9)
        clear hb9 HS
        clear t0 t1 t2 t3 t4 t5 z0 z1 z2 z3 z4 k0 k1 k2 k3 k4 k5 q0 q1 q2 q3 q4
        have HS := HS'
        clear HS'
        obtain ⟨⟨t0, t1, t2, t3, t4, t5⟩, ⟨z0, z1, z2, z3, z4⟩, ⟨k0, k1, k2, k3, k4, k5⟩, ⟨q0, q1, q2, q3, q4⟩⟩ := HS.out.1
        go_wp2_with fail
        refine (c_impl_FormatTask a ah ad e true _).mono ?_
        rintro r W' ⟨rfl, hb9⟩
        have HS' := Lib.hid (HS.out.call hb9)
        clear hb9 HS
        clear t0 t1 t2 t3 t4 t5 z0 z1 z2 z3 z4 k0 k1 k2 k3 k4 k5 q0 q1 q2 q3 q4
        have HS := HS'
        clear HS'
        obtain ⟨⟨t0, t1, t2, t3, t4, t5⟩, ⟨z0, z1, z2, z3, z4⟩, ⟨k0, k1, k2, k3, k4, k5⟩, ⟨q0, q1, q2, q3, q4⟩⟩ := HS.out.1
        by_cases heq : fmtT ⟨a, ah, ad, e, true⟩ = s.data.toList
        · have HEQ := Lib.hid heq
          have ht1 : ((bs (fmtT ⟨a, ah, ad, e, true⟩)).toList == s.toList) = true := by rw [beq_iff_eq, bsL, ByteArray.toList_eq]; exact heq
          clear heq
          go_wp2
          obtain ⟨r0, r1, r2, r3, r4, _⟩ := set5 HS.out.1.2.2.1 (.int .i64 a) (.int .i64 ah) (.int .i64 ad) (.int .i64 e) (.bool true)
          exact bodyPost_ret (v := .tuple #[.agg #[.int .i64 a, .int .i64 ah, .int .i64 ad, .int .i64 e, .bool true], .bool true]) (by simp [results, Tryd.results10, go_sem, r0, r1, r2, r3, r4]) rfl (parsed_yes HS.out.2.1 HS.out.2.2.1 (.inl ⟨rfl, HV.out, HEQ.out⟩))
        · have HEQ := Lib.hid heq
          have ht1 : ((bs (fmtT ⟨a, ah, ad, e, true⟩)).toList == s.toList) = false := by rw [beq_eq_false_iff_ne, bsL, ByteArray.toList_eq]; exact heq
          clear heq
          go_wp2
          obtain ⟨r0, r1, r2, r3, r4, _⟩ := set5 HS.out.1.2.2.1 (.int .i64 0) (.int .i64 0) (.int .i64 0) (.int .i64 0) (.bool false)
          exact bodyPost_ret (v := .tuple #[.agg #[.int .i64 0, .int .i64 0, .int .i64 0, .int .i64 0, .bool false], .bool false]) (by simp [results, Tryd.results10, go_sem, r0, r1, r2, r3, r4]) rfl (parsed_no HS.out.2.1 HS.out.2.2.1 fun u hu hl => by have h := (HU.out u hu hl).symm; subst h; exact HEQ.out hl)
end Go.Proofs.YtncpnjnmljobgaaDoor
