/-
  Contracts of the program's sorting.
-/
import Derived.Test.YtbcionecepdkfaaLayS
import Derived.Test.YtbcionecepdkfaaMathSort
import Derived.Test.YtbcionecepdkfaaOwnApp
import Derived.Test.YtbcionecepdkfaaList
import Derived.Test.YtbcionecepdkfaaCrit
namespace Go.Proofs.Ytbcionecepdkfaa
open Go.RowKit Go.Sort
theorem compareInt_ne {x y : Int} : Lib.compareInt x y = -1 ∨ Lib.compareInt x y = 0 ∨ Lib.compareInt x y = 1 := by
  unfold Lib.compareInt
  repeat' split
  all_goals simp
set_option maxHeartbeats 1000000 in
theorem c_cmpCompare (x y : Int) (w : World) : Calls Try.prog 32 #[.int .i64 x, .int .i64 y] w fun e w' => e = .returned (.int .i64 (Lib.compareInt x y)) ∧ w' = w := by
  go_enter Try.func32, Try.ntmps32
  go_wp2
  all_goals (go_ret; refine ⟨?_, rfl⟩; unfold Lib.compareInt; (repeat' split) <;> first | rfl | (exfalso; omega))
set_option maxHeartbeats 1000000 in
theorem c_cmpOr (b : Nat) (x y r : Int) (w : World) (h0 : w.cell? ⟨b, 0, none⟩ = some (.int .i64 x)) (h1 : w.cell? ⟨b, 1, none⟩ = some (.int .i64 y)) (hr : r = if x ≠ 0 then x else y) :
    Calls Try.prog 31 #[.slice (some ⟨b, 0, none⟩) 2 2] w fun e w' => e = .returned (.int .i64 r) ∧ w' = w := by
  by_cases hx : x = 0
  · rw [if_neg (by simp [hx])] at hr
    subst hx hr
    by_cases hy : r = 0
    · subst hy
      go_enter Try.func31, Try.ntmps31
      go_wp2
      refine wp_loop_rounds 3 ?_
      rw [rounds_succ]
      go_wp2
      rw [rounds_succ]
      go_wp2
      rw [rounds_succ]
      go_wp2
      go_ret
      exact ⟨rfl, rfl⟩
    · have hy1 : (r != 0) = true := by simpa using hy
      go_enter Try.func31, Try.ntmps31
      go_wp2
      refine wp_loop_rounds 3 ?_
      rw [rounds_succ]
      go_wp2
      rw [rounds_succ]
      go_wp2
      go_ret
      exact ⟨rfl, rfl⟩
  · rw [if_pos hx] at hr
    subst hr
    have hx1 : (r != 0) = true := by simpa using hx
    go_enter Try.func31, Try.ntmps31
    go_wp2
    refine wp_loop_rounds 3 ?_
    rw [rounds_succ]
    go_wp2
    go_ret
    exact ⟨rfl, rfl⟩
set_option maxHeartbeats 1000000 in
theorem c_SortDue1 (x y : Tk) (W : World) : Calls Try.prog 30 #[.agg #[.int .i64 x.low, .int .i64 x.high, .int .i64 x.due, .int .i64 x.every, .bool x.crit], .agg #[.int .i64 y.low, .int .i64 y.high, .int .i64 y.due, .int .i64 y.every, .bool y.crit]] W fun e w' => e = .returned (.int .i64 (cfT x y)) ∧ ∃ q os', w' = grow (W.drewN q) os' := by
  have c1 := fun W' => c_cmpCompare x.due y.due W'
  have c2 := fun W' => c_cmpCompare x.every y.every W'
  have h3 := Lib.hid (show cfT x y = if Lib.compareInt x.due y.due ≠ 0 then Lib.compareInt x.due y.due else Lib.compareInt x.every y.every from rfl)
  generalize Lib.compareInt x.due y.due = r1 at *
  generalize Lib.compareInt x.every y.every = r2 at *
  generalize cfT x y = r at *
  have C1 := Lib.hid c1
  have C2 := Lib.hid c2
  clear c1 c2
  go_enter Try.func30, Try.ntmps30
  go_wp2_with fail
  obtain ⟨V, hV⟩ : ∃ V, V = ((W.alloc (.cells #[.int .i64 x.low, .int .i64 x.high, .int .i64 x.due, .int .i64 x.every, .bool x.crit] 28)).alloc (.cells #[.int .i64 y.low, .int .i64 y.high, .int .i64 y.due, .int .i64 y.every, .bool y.crit] 28)) := ⟨_, rfl⟩
  have f1 : V.cell? ⟨W.heap.size, 2, none⟩ = some (.int .i64 x.due) := by rw [hV]; simp
  have f2 : V.cell? ⟨W.heap.size, 3, none⟩ = some (.int .i64 x.every) := by rw [hV]; simp
  have f3 : V.cell? ⟨W.heap.size + 1, 2, none⟩ = some (.int .i64 y.due) := by rw [hV]; simp
  have f4 : V.cell? ⟨W.heap.size + 1, 3, none⟩ = some (.int .i64 y.every) := by rw [hV]; simp
  have hG : ∃ os', V = grow W os' := ⟨_, by rw [hV, alloc_eq_grow, alloc_eq_grow, grow_grow]⟩
  have HG := Lib.hid hG
  rw [← hV]
  clear hV hG
  refine wp_region_still_tail 10 (by kernel_rfl) (by kernel_rfl) ?_
  simp only [List.take_succ_cons, List.take_zero, List.drop_succ_cons, List.drop_zero]
  repeat still_step
  still_call (C1.out _)
  repeat still_step
  still_call (C2.out _)
  repeat still_step
  refine wpStill_nil ?_
  change wpList _ _ _ _ _ V.drew
  clear f1 f2 f3 f4
  go_wp2_with fail
  refine (c_cmpOr _ r1 r2 r _ ?_ ?_ h3.out).mono ?_
  · simp
  · simp
  rintro e w' ⟨rfl, rfl⟩
  go_wp2
  go_ret
  obtain ⟨os', rfl⟩ := HG.out
  exact ⟨rfl, 1, _, by rw [alloc_eq_grow, grow_grow, drew_grow]; rfl⟩
theorem flat_tcells (d : Array Tk) : ∀ j, j < d.size * 5 → (tcells d.toList)[j]? = some (flatK Tk.cells 5 d)[j]! := by
  intro j hj
  obtain ⟨t, ht⟩ := at_of (ts := d.toList) (k := j / 5) (by rw [Array.length_toList]; omega)
  have h := tcells_at d.toList (j / 5) t ht (j % 5) (by omega)
  rw [show j / 5 * 5 + j % 5 = j by omega] at h
  rw [h, get_flatK _ _ _ _ hj, bang_of rfl ht]
  have hl : j % 5 < t.cells.length := by rw [Tk.cells_len]; omega
  rw [List.getElem?_eq_getElem hl, getElem!_pos t.cells (j % 5) hl]
theorem OwnT.holdsK {w : World} {B : Nat} {e : TypeId} {g n c : Nat} {ts : List Tk} (h : OwnT w B e (some ⟨g, 0, none⟩) n c ts) (d : Array Tk) (hd : d.toList = ts) : HoldsK Tk.cells 5 w g 0 d := by
  intro j hj
  rw [size_flatK] at hj
  have hs : d.size = n := by have := h.1; rw [← hd, Array.length_toList] at this; exact this
  rw [Nat.zero_add]
  refine ⟨?_, h.free j⟩
  rw [h.2.cellAt _ (by omega), ← hd]
  exact flat_tcells d j hj
theorem OwnT.sorted {w : World} {B : Nat} {e : TypeId} {g n c : Nat} {ts : List Tk} (h : OwnT w B e (some ⟨g, 0, none⟩) n c ts) (d : Array Tk) (hs : d.size = n) (m : Nat) (os : Array Obj) :
    OwnT (sortWorldK Tk.cells 5 w g 0 m d os) B e (some ⟨g, 0, none⟩) n c d.toList ∧ ∀ w0, Below B w0 w → Below B w0 (sortWorldK Tk.cells 5 w g 0 m d os) := by
  rcases h.2.2 with ⟨hv, _⟩ | ⟨g', cap, cur, hv, hb, hg, hn, hc, hsz, htake⟩
  · injection hv with hv
    cases hv
  · injection hv with hv e1 e2
    injection hv with hv
    injection hv with hv
    subst hv
    have hlt : g < w.heap.size := (Array.getElem?_eq_some_iff.1 hg).1
    have hheap : ∀ k, k < w.heap.size → (sortWorldK Tk.cells 5 w g 0 m d os).heap[k]? = (w.heap.modify g (onCells (putCells id 0 (flatK Tk.cells 5 d))))[k]? := fun k hk => by
      show ((w.heap.modify g (onCells (putCells id 0 (flatK Tk.cells 5 d)))) ++ os)[k]? = _
      rw [Array.getElem?_append_left (by simpa using hk)]
    refine ⟨⟨by rw [Array.length_toList]; exact hs, by rw [tcells_len, Array.length_toList, hs], .inr ⟨g, cap, putCells id 0 (flatK Tk.cells 5 d) cur, by rw [e2], hb, ?_, hn, hc, ?_, ?_⟩⟩, fun w0 h0 => ?_⟩
    · rw [hheap g hlt, Array.getElem?_modify, if_pos rfl, hg]
      rfl
    · rw [← hsz]; simp [putCells]
    · apply List.ext_getElem?
      intro j
      by_cases hj : j < n * 5
      · have hcur : j < cur.size := by rw [hsz]; have := Nat.mul_le_mul_right 5 hn; omega
        rw [List.getElem?_take, if_pos hj, flat_tcells d j (by omega)]
        simp [putCells, hcur, hs, hj]
      · rw [List.getElem?_take, if_neg hj, List.getElem?_eq_none (by rw [tcells_len, Array.length_toList]; omega)]
    · refine ⟨h0.os, h0.tape, h0.output, Nat.le_trans h0.size (by show _ ≤ ((w.heap.modify g _) ++ os).size; simp), fun k hk => ?_⟩
      rw [← h0.block k hk, hheap k (by omega), Array.getElem?_modify, if_neg (by omega)]
set_option maxHeartbeats 1000000 in
theorem c_insertion (g c n B : Nat) (ts : List Tk) (e : TypeId) (w : World) (h : OwnT w B e (some ⟨g, 0, none⟩) n c ts) (hn : n ≤ 1000) :
    Calls Try.prog 52 #[.slice (some ⟨g, 0, none⟩) n c, .int .i64 0, .int .i64 n, .func (.func 30) #[] #[]] w fun r w' => r = .returned (.tuple #[]) ∧ OwnT w' B e (some ⟨g, 0, none⟩) n c (srt ts) ∧ ∀ w0, Below B w0 w → Below B w0 w' := by
  have hs : ts.toArray.size = n := by have := h.1; simpa using this
  have hlt : g < w.heap.size := by
    rcases h.2.2 with ⟨hv, _⟩ | ⟨g', cap, cur, hv, hb, hg, _⟩
    · injection hv with hv
      cases hv
    · injection hv with hv e1 e2
      injection hv with hv
      injection hv with hv
      subst hv
      exact (Array.getElem?_eq_some_iff.1 hg).1
  have eg : ∀ args w, (callFunc 30 args).run Try.prog w = .ok (.enter 30 args) w := enters_of Try.func30 (by kernel_rfl) rfl
  have hcmp : CmpLays Try.prog 30 #[] Tk.cells 5 cfT g 0 ts.toArray.size w := fun _ _ _ _ x y => c_SortDue1 x y _
  have hcon := AnyQ.insertionSortCmpFunc L_ins 5 Try.isAgg28 Try.sizeOf28 Tk.cells (fun _ => rfl) Tk.one cfT 30 #[] g 0 c 0 n ts.toArray w eg hcmp (h.holdsK _ (by simp)) hlt (Nat.zero_le _) (by omega) (by rw [hs]; omega)
  rw [hs] at hcon
  refine hcon.mono ?_
  rintro r w' ⟨rfl, m, os, rfl⟩
  have hlt' : ltOf cfT = tLt := by funext x y; exact cfT_lt x y
  rw [hlt']
  have hsz : (insertionSort tLt ts.toArray 0 n).size = n := by
    by_cases h0 : 0 < ts.length
    · have := insertion_srt ts ts.toArray (by simp) h0
      have hl := congrArg List.length this
      rw [srt_len, Array.length_toList, h.1] at hl
      exact hl
    · have hn0 : n = 0 := by have := h.1; omega
      subst hn0
      unfold insertionSort
      rw [insOuter_stop _ _ _ _ _ (by omega)]
      exact hs
  obtain ⟨a, b⟩ := h.sorted _ hsz m os
  refine ⟨rfl, ?_, b⟩
  have e1 : (insertionSort tLt ts.toArray 0 n).toList = srt ts := by
    by_cases h0 : 0 < ts.length
    · have := insertion_srt ts ts.toArray (by simp) h0
      rwa [h.1] at this
    · have hn0 : n = 0 := by have := h.1; omega
      have ht : ts = [] := List.length_eq_zero_iff.1 (by omega)
      subst hn0 ht
      have h1 := hsz
      exact List.length_eq_zero_iff.1 (by rw [Array.length_toList]; exact h1)
  rwa [e1] at a
set_option maxHeartbeats 1000000 in
theorem c_insertion_nil (c : Nat) (w : World) :
    Calls Try.prog 52 #[.slice none 0 c, .int .i64 0, .int .i64 0, .func (.func 30) #[] #[]] w fun r w' => r = .returned (.tuple #[]) ∧ w' = w := by
  go_enter Try.func52, Try.ntmps52
  go_wp2
  refine wp_loop_rounds 1 ?_
  rw [rounds_succ]
  go_wp2
  go_end0
  exact ⟨rfl, rfl⟩
theorem OwnT.form' {w : World} {B : Nat} {e : TypeId} {A : Option Addr} {n c : Nat} {ts : List Tk} (h : OwnT w B e A n c ts) : (A = none ∧ n = 0 ∧ c = 0) ∨ ∃ g, A = some ⟨g, 0, none⟩ := by
  rcases h.2.2 with ⟨hv, _⟩ | ⟨g, cap, cur, hv, _⟩
  · injection hv with h1 h2 h3
    exact .inl ⟨h1, h2, h3⟩
  · injection hv with h1 h2 h3
    exact .inr ⟨g, h1⟩
theorem OwnT.addr {w : World} {B : Nat} {e : TypeId} {A : Option Addr} {n c : Nat} {ts : List Tk} (h : OwnT w B e A n c ts) : A = none ∨ ∃ b o, A = some ⟨b, o, none⟩ := by
  rcases h.form' with ⟨h1, _⟩ | ⟨g, h1⟩
  · exact .inl h1
  · exact .inr ⟨g, 0, h1⟩
set_option maxHeartbeats 1000000 in
theorem c_stable (A : Option Addr) (c n B : Nat) (ts : List Tk) (e : TypeId) (w : World) (h : OwnT w B e A n c ts) (hn : n ≤ 5) :
    Calls Try.prog 46 #[.slice A n c, .int .i64 n, .func (.func 30) #[] #[]] w fun r w' => r = .returned (.tuple #[]) ∧ OwnT w' B e A n c (srt ts) ∧ ∀ w0, Below B w0 w → Below B w0 w' := by
  rcases h.form' with ⟨rfl, rfl, rfl⟩ | ⟨g, rfl⟩
  · have ht : ts = [] := List.length_eq_zero_iff.1 h.1
    subst ht
    have H := Lib.hid h
    clear h hn
    go_enter Try.func46, Try.ntmps46
    go_wp2
    refine wp_loop_rounds 1 ?_
    rw [rounds_succ]
    go_wp2_with fail
    refine (c_insertion_nil _ _).mono ?_
    rintro r w' ⟨rfl, rfl⟩
    go_wp2
    refine wp_loop_rounds 1 ?_
    rw [rounds_succ]
    go_wp2
    go_end0
    exact ⟨rfl, H.out, fun _ h => h⟩
  · have H := Lib.hid h
    clear h
    have hn20 : ¬ (20 : Int) ≤ n := by omega
    have hn21 : ¬ (20 : Int) < n := by omega
    go_enter Try.func46, Try.ntmps46
    go_wp2
    refine wp_loop_rounds 1 ?_
    rw [rounds_succ]
    go_wp2_with fail
    refine (c_insertion g c n B ts e _ H.out (by omega)).mono ?_
    rintro r w1 ⟨rfl, ho, hb⟩
    have HO := Lib.hid ho
    have HB := Lib.hid hb
    clear ho hb
    go_wp2
    refine wp_loop_rounds 1 ?_
    rw [rounds_succ]
    go_wp2
    go_end0
    exact ⟨rfl, HO.out, HB.out⟩
set_option maxHeartbeats 1000000 in
theorem c_SortStable (A : Option Addr) (c n B : Nat) (ts : List Tk) (e : TypeId) (w : World) (h : OwnT w B e A n c ts) (hn : n ≤ 5) :
    Calls Try.prog 29 #[.slice A n c, .func (.func 30) #[] #[]] w fun r w' => r = .returned (.tuple #[]) ∧ OwnT w' B e A n c (srt ts) ∧ ∀ w0, Below B w0 w → Below B w0 w' := by
  have H := Lib.hid h
  clear h
  go_enter Try.func29, Try.ntmps29
  go_wp2_with fail
  refine (c_stable A c n B ts e _ H.out hn).mono ?_
  rintro r w1 ⟨rfl, ho, hb⟩
  have HO := Lib.hid ho
  have HB := Lib.hid hb
  clear ho hb
  go_wp2
  go_end0
  exact ⟨rfl, HO.out, HB.out⟩
set_option maxHeartbeats 1000000 in
theorem c_Clone (A : Option Addr) (c n : Nat) (ts : List Tk) (w : World) (h : IsTs w A n ts) (hA : A = none ∨ ∃ b o, A = some ⟨b, o, none⟩) (hn : n ≤ 1000) :
    Calls Try.prog 28 #[.slice A n c] w (GotTs w 28 ts) := by
  rcases hA with rfl | ⟨b, o, rfl⟩
  · have hn0 : n = 0 := by
      rcases Nat.eq_zero_or_pos n with h0 | h0
      · exact h0
      · obtain ⟨t, ht⟩ := at_of (ts := ts) (k := 0) (by have := h.1; omega)
        obtain ⟨b, o, e, _⟩ := h.2 0 t ht
        cases e
    have ht : ts = [] := List.length_eq_zero_iff.1 (by rw [h.1]; exact hn0)
    subst ht
    refine (AnyE.slices_Clone_nil L_clone n c w).mono ?_
    rintro r w' ⟨rfl, rfl⟩
    exact ⟨none, 0, 0, rfl, Below.refl _ _, OwnT.nil_ _ _ _⟩
  · obtain ⟨i0, hi, hz0, hz1, hz2⟩ := info_parts info_Task
    refine (AnyE.slices_Clone L_clone i0 _ 5 40 hi hz0 hz1 hz2 rfl (by omega) Try.sizeOf28 b o n c (tcells ts) w (by rw [tcells_len, h.1]) (by unfold maxLen; omega) (by omega) (fun j u hj => ?_) (tcells_one ts)).mono ?_
    · have := h.cells j u hj
      rwa [add_none'] at this
    · rintro r w' ⟨v, rfl, hown, _, hb⟩
      have hv : ∃ A' c', v = .slice A' n c' := by
        rcases hown.2 with ⟨hv, h0⟩ | ⟨g, cap, cur, hv, _⟩
        · exact ⟨none, 0, by rw [h0]; exact hv⟩
        · exact ⟨_, _, hv⟩
      obtain ⟨A', c', rfl⟩ := hv
      exact ⟨A', n, c', rfl, hb, h.1, hown⟩
set_option maxHeartbeats 1000000 in
theorem c_impl_SortDue (A : Option Addr) (n c : Nat) (ts : List Tk) (w : World) (h : IsTs w A n ts) (hA : A = none ∨ ∃ b o, A = some ⟨b, o, none⟩) (hn : n ≤ 140737488351232) :
    Calls Try.prog 9 #[.slice A n c] w (GotTs w 28 (srA ts)) := by
  cases hv : svB ts
  · rw [srA_no hv]
    clear hA
    go_enter Try.func9, Try.ntmps9
    go_wp2_with fail
    refine (c_impl_SetValid A n c ts w h hn).mono ?_
    rintro r w1 ⟨rfl, hb1⟩
    rw [hv]
    clear hv
    go_wp2
    go_ret
    exact ⟨none, 0, 0, rfl, hb1, OwnT.nil_ _ _ _⟩
  · rw [srA_yes hv]
    have hn5 : n ≤ 5 := by have := svB_len hv; have := h.1; omega
    have H := Lib.hid h
    have HA := Lib.hid hA
    have HV := Lib.hid hv
    clear h hA hv
    go_enter Try.func9, Try.ntmps9
    go_wp2_with fail
    refine (c_impl_SetValid A n c ts w H.out hn).mono ?_
    rintro r w1 ⟨rfl, hb1⟩
    rw [HV.out]
    have HB1 := Lib.hid hb1
    have H1 := Lib.hid (H.out.below hb1)
    clear hb1
    go_wp2_with fail
    refine (c_Clone A c n ts _ H1.out HA.out (by omega)).mono ?_
    rintro r w2 ⟨A2, n2, c2, rfl, hb2, ho2⟩
    obtain rfl : n = n2 := by have := H.out.1; have := ho2.1; omega
    have HB2 := Lib.hid (below2 HB1.out hb2)
    have HO2 := Lib.hid (ho2.less HB1.out.size)
    clear hb2 ho2
    go_wp2_with fail
    refine (c_SortStable A2 c2 n w.heap.size ts _ _ HO2.out hn5).mono ?_
    rintro r w3 ⟨rfl, ho3, hb3⟩
    have HO3 := Lib.hid ho3
    have HB3 := Lib.hid (hb3 _ HB2.out)
    clear ho3 hb3
    go_wp2
    go_ret
    exact ⟨A2, n, c2, rfl, HB3.out, HO3.out⟩
end Go.Proofs.Ytbcionecepdkfaa
