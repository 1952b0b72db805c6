/-
  Contracts of ResponseLow.
-/
import Derived.Test.YtajbkjoblpbjlaaRise
namespace Go.Proofs.Ytajbkjoblpbjlaa
open Go.RowKit
theorem dm_eq (t : Tk) (x : Int) (hi : Bool) : dmd t.low t.high t.every x hi = t.dm x hi := rfl
/-- The sum so far is small. -/
theorem fLow_bd {ts : List Tk} (hv : svB ts = true) {low x : Int} (hl : 0 ≤ low ∧ low ≤ 20) (h0 : 0 ≤ x) (h1 : x ≤ 1000000000) (j : Nat) :
    low ≤ dsum (fun t => t.dm x false) low (ts.take j) ∧ dsum (fun t => t.dm x false) low (ts.take j) ≤ 1000000000000000 := by
  have h := dsum_bd (g := fun t => t.dm x false) (ts := ts.take j) (B := 1000000020 * 20) (fun t ht => dm_bd (svB_mem hv (List.mem_of_mem_take ht)) false h0 h1) low
  have hl5 := svB_len hv
  have hlt : (ts.take j).length ≤ 5 := by rw [List.length_take]; omega
  have hm : ((ts.take j).length : Int) * (1000000020 * 20) ≤ 5 * (1000000020 * 20) := Int.mul_le_mul_of_nonneg_right (by omega) (by omega)
  omega
theorem ok_small {t : Tk} (h : t.ok = true) : (1 ≤ t.low ∧ t.low ≤ 20) ∧ (1 ≤ t.high ∧ t.high ≤ 20) ∧ (1 ≤ t.due ∧ t.due ≤ 20) ∧ (1 ≤ t.every ∧ t.every ≤ 20) := by
  have := tvB_true h
  omega
set_option maxHeartbeats 1000000 in
theorem c_impl_ResponseLow1 (A : Option Addr) (n c k b1 b2 : Nat) (ts : List Tk) (t : Tk) (x : Int) (w : World) (h : IsTs w A n ts) (hnc : n ≤ c) (hv : svB ts = true) (ht : ts[k]? = some t)
    (hc1 : w.cell? ⟨b1, 0, none⟩ = some (.slice A n c)) (hc2 : w.cell? ⟨b2, 0, none⟩ = some (.int .i64 k)) (h0 : 0 ≤ x) (h1 : x ≤ 1000000000) :
    Calls Try.prog 48 #[.int .i64 x, .pointer (some ⟨b1, 0, none⟩), .pointer (some ⟨b2, 0, none⟩)] w (Ret w (.int .i64 (fLow ts k t.low x))) := by
  have hkn : k < n := by have := lt_of_at ht; have := h.1; omega
  have hl5 := svB_len hv
  have hn5 : n ≤ 5 := by have := h.1; omega
  obtain ⟨b, o, rfl, hbb, g0, g1, g2, g3, g4⟩ := h.2 k t ht
  have HT := Lib.hid ht
  have H := Lib.hid h
  have HV := Lib.hid hv
  have HL := Lib.hid h.1
  clear ht h hv g1 g2 g3 g4
  go_enter Try.func48, Try.ntmps48
  go_wp2
  clear g0
  go_loopw [5, 17] (fun u i wr => ∃ j : Nat, j ≤ k ∧ i = .int .i64 j ∧ u = .int .i64 (dsum (fun t => t.dm x false) t.low (ts.take j)) ∧ Below w.heap.size w wr) (fun _ i _ => k - (intOf i).toNat)
  case atStart => exact ⟨0, Nat.zero_le _, rfl, rfl, Below.refl _ _⟩
  case round =>
    obtain ⟨j, hj, rfl, rfl, hb⟩ := hrel
    have HB := Lib.hid hb
    clear hb
    by_cases hlt : j < k
    · obtain ⟨t', ht'⟩ : ∃ t, ts[j]? = some t := at_of (by have := HL.out; omega)
      obtain ⟨b', o', e', hbb', g0, g1, g2, g3, g4⟩ := (H.out.below HB.out).2 j t' ht'
      injection e' with e'
      injection e' with e1 e2
      subst e1 e2
      have hS := fLow_bd HV.out (low := t.low) (by have := ok_small (svB_ok HV.out HT.out); omega) h0 h1 j
      have hsn := Lib.hid (dsum_take (g := fun t => t.dm x false) (a := t.low) ht')
      have hd := dm_bd (svB_ok HV.out ht') (x := x) false h0 h1
      have hok := svB_ok HV.out ht'
      rw [← dm_eq] at hd
      have s1 := hS.1
      have s2 := hS.2
      have s3 := hd.1
      have s4 := hd.2
      have s5 := (ok_small (svB_ok HV.out HT.out)).1.1
      clear hS hd
      generalize hG : dsum (fun t => t.dm x false) t.low (ts.take j) = S at *
      have HG := Lib.hid hG
      have HK := Lib.hid hok
      clear hG ht' hok
      go_wp2_with fail
      refine (c_impl_demand _ _ _ _ _ _ _ _ HK.out h0 h1).mono ?_
      rintro r w1 ⟨rfl, hbw⟩
      have HW := Lib.hid (below2 HB.out (below2 (below_alloc _) hbw))
      clear hbw g0 g1 g2 g3 g4
      go_wp2
      go_roundw
      case rel => exact ⟨j + 1, by omega, by go_num, by rw [hsn.out]; rfl, HW.out⟩
      case measure => simp [intOf]; omega
    · go_wp2
      go_ret
      refine ⟨ret_int ?_, HB.out⟩
      rw [show j = k by omega]
      rfl
set_option maxHeartbeats 1000000 in
theorem c_impl_ResponseLow (A : Option Addr) (n c : Nat) (ts : List Tk) (a : Int) (w : World) (h : IsTs w A n ts) (hn : n ≤ 140737488351232) (hnc : n ≤ c) :
    Calls Try.prog 22 #[.slice A n c, .int .i64 a] w (Ret w (.tuple #[.int .i64 (ansN (rspL ts a)), .bool (ansB (rspL ts a))])) := by
  cases hp : plB ts a
  · rw [rspL_no hp]
    have H := Lib.hid (h.below (below2 (below_alloc (.cells #[.slice A n c] 26)) (below_alloc (.cells #[.int .i64 a] 3))))
    clear h
    go_enter Try.func22, Try.ntmps22
    go_wp2_with fail
    refine (c_placed A n c ts a _ H.out hn).mono ?_
    rintro r w1 ⟨rfl, hb1⟩
    have HB := Lib.hid (below2 (below2 (below_alloc _) (below_alloc _)) hb1)
    clear hb1
    go_wp2
    go_ret2
    exact ⟨rfl, HB.out⟩
  · obtain ⟨hv, k, t, rfl, hk, ht, hok⟩ := plB_at hp
    rw [rspL_yes hp ht]
    have hl5 := svB_len hv
    have hn5 : n ≤ 5 := by have := h.1; omega
    have hkn : k < n := by have := h.1; omega
    have H := Lib.hid (h.below (below2 (below_alloc (.cells #[.slice A n c] 26)) (below_alloc (.cells #[.int .i64 k] 3))))
    have HV := Lib.hid hv
    have HT := Lib.hid ht
    have HK := Lib.hid hok
    have HP := Lib.hid hp
    clear h hv ht hok hp
    have hmf : ∀ (fn : Fn) (first cap : Array Value) (w : World), (Instr.makeFunc fn first cap).run Try.prog w = .ok (.func fn first cap) w := fun _ _ _ _ => rfl
    go_enter Try.func22, Try.ntmps22
    go_wp2_with fail
    refine (c_placed A n c ts k _ H.out hn).mono ?_
    rintro r w1 ⟨rfl, hb1⟩
    have HB1 := Lib.hid hb1
    have HI := Lib.hid (H.out.below hb1)
    have q1 := (bcell hb1).1 w.heap.size 0 (by simp; omega)
    have q2 := (bcell hb1).1 (w.heap.size + 1) 0 (by simp)
    have hz := lt2 hb1
    obtain ⟨b, o, rfl, hbb, g0, g1, g2, g3, g4⟩ := HI.out.2 k t HT.out
    simp at q1 q2
    rw [HP.out]
    have HCl := Lib.hid (show ∀ (W : World) (x : Int), Below w1.heap.size w1 W → t.low ≤ x → x ≤ t.due → Calls Try.prog 48 (#[.int .i64 x] ++ #[.pointer (some ⟨w.heap.size, 0, none⟩), .pointer (some ⟨w.heap.size + 1, 0, none⟩)]) W (Ret W (.int .i64 (fLow ts k t.low x))) from fun W x hb hx hx' =>
      have hk := ok_small HK.out
      c_impl_ResponseLow1 (some ⟨b, o, none⟩) n c k w.heap.size (w.heap.size + 1) ts t x W (HI.out.below hb) hnc HV.out HT.out (((bcell hb).1 w.heap.size 0 hz.1).trans q1) (((bcell hb).1 (w.heap.size + 1) 0 hz.2).trans q2) (by omega) (by omega))
    have HU := Lib.hid (fLow_up HV.out k (low := t.low) (by have := ok_small HK.out; omega) (by have := ok_small HK.out; omega))
    clear hb1 g1 g3 g4
    go_wp2_with fail
    go_region_held3 (fun w' => w'.cell? ⟨w.heap.size, 0, none⟩ = some (.slice (some ⟨b, o, none⟩) n c) ∧ w'.cell? ⟨w.heap.size + 1, 0, none⟩ = some (.int .i64 k) ∧ w'.cell? ⟨b, o + k * 5, none⟩ = some (.int .i64 t.low) ∧ w'.cell? ⟨b, o + k * 5 + 2, none⟩ = some (.int .i64 t.due)) (go_keep) (first
      | (go_at_call 40; go_must (refine (c_rises_impl_ResponseLow_1 _ (fLow ts k t.low) t.low t.due _ HU.out (fun W x hb => HCl.out W x (below_undrew hb))).mono ?_; rintro r w2 ⟨rfl, hb2⟩; have x1 := ((bcell hb2).1 w.heap.size 0 hz.1).trans q1; have x2 := ((bcell hb2).1 (w.heap.size + 1) 0 hz.2).trans q2; have x3 := ((bcell hb2).1 b (o + k * 5) hbb).trans g0; have x4 := ((bcell hb2).1 b (o + k * 5 + 2) hbb).trans g2)))
    all_goals
      go_wp2
      go_ret2
      exact ⟨rfl, below2 (below2 (below2 (below_alloc _) (below_alloc _)) HB1.out) (below_undrew hb2)⟩
set_option maxHeartbeats 2000000 in
theorem c_spec_ResponseLow (A : Option Addr) (n c : Nat) (ts : List Tk) (a : Int) (w : World) (h : IsTs w A n ts) (hn : n ≤ 140737488351232) :
    Calls Try.prog 23 #[.slice A n c, .int .i64 a] w (Ret w (.tuple #[.int .i64 (ansN (rspL ts a)), .bool (ansB (rspL ts a))])) := by
  cases hp : plB ts a
  · rw [rspL_no hp]
    go_enter Try.func23, Try.ntmps23
    go_wp2_with fail
    refine (c_l3At A n c ts a _ h hn).mono ?_
    rintro r w1 ⟨rfl, hb1⟩
    go_wp2
    go_ret2
    exact ⟨rfl, hb1⟩
  · obtain ⟨hv, k, t, rfl, hk, ht, hok⟩ := plB_at hp
    rw [rspL_yes hp ht]
    have hl5 := svB_len hv
    have hn5 : n ≤ 5 := by have := h.1; omega
    have hkn : k < n := by have := h.1; omega
    have hs := ok_small hok
    have l1 := hs.1.1
    have l2 := hs.1.2
    have d2 := hs.2.2.1.2
    have H := Lib.hid h
    have HL := Lib.hid h.1
    have HV := Lib.hid hv
    have HT := Lib.hid ht
    have HK := Lib.hid hok
    have HP := Lib.hid hp
    have HU := Lib.hid (fLow_up hv k (low := t.low) (by omega) (by omega))
    clear h hv ht hok hp hs
    go_enter Try.func23, Try.ntmps23
    go_wp2_with fail
    refine (c_l3At A n c ts k _ H.out hn).mono ?_
    rintro r w1 ⟨rfl, hb1⟩
    rw [HP.out]
    have HB1 := Lib.hid hb1
    obtain ⟨b, o, rfl, hbb, g0, g1, g2, g3, g4⟩ := (H.out.below hb1).2 k t HT.out
    clear hb1 g1 g2 g3 g4
    go_wp2
    clear g0 hbb
    go_loopw [6] (fun u wr => ∃ x : Int, u = .int .i64 x ∧ Climb (fLow ts k t.low) t.low x ∧ Below w.heap.size w wr) (fun u _ => (t.due + 1 - intOf u).toNat)
    case atStart => exact ⟨t.low, rfl, Climb.start HU.out, HB1.out⟩
    case round =>
      clear HB1
      obtain ⟨x, rfl, hcl, hb⟩ := hrel
      have HB := Lib.hid hb
      have HC := Lib.hid hcl
      have hx0 : t.low ≤ x := hcl.1
      obtain ⟨b', o', e', hbb, g0, g1, g2, g3, g4⟩ := (H.out.below hb).2 k t HT.out
      injection e' with e'
      injection e' with e1 e2
      subst e1 e2
      clear hb hcl g1 g3 g4
      obtain ⟨wo, rfl⟩ : ∃ wo : World, wo = wr := ⟨_, rfl⟩
      by_cases hxm : x ≤ t.due
      · have h0 : 0 ≤ x := by omega
        have h1 : x ≤ 1000000000 := by omega
        go_wp2
        clear g0 g2 hbb
        go_loopw [7, 8] (fun u i wr => ∃ j : Nat, j ≤ k ∧ i = .int .i64 j ∧ u = .int .i64 (dsum (fun t => t.dm x false) t.low (ts.take j)) ∧ Below w.heap.size w wr) (fun _ i _ => k - (intOf i).toNat)
        case atStart => exact ⟨0, Nat.zero_le _, rfl, rfl, HB.out⟩
        case round =>
          clear HB
          obtain ⟨j, hj, rfl, rfl, hb⟩ := hrel
          have HB := Lib.hid hb
          clear hb
          by_cases hlt : j < k
          · obtain ⟨t', ht'⟩ : ∃ t, ts[j]? = some t := at_of (by have := HL.out; omega)
            obtain ⟨b', o', e', hbb', g0, g1, g2, g3, g4⟩ := (H.out.below HB.out).2 j t' ht'
            injection e' with e'
            injection e' with e1 e2
            subst e1 e2
            have hS := fLow_bd HV.out (low := t.low) (by omega) h0 h1 j
            have hsn := Lib.hid (dsum_take (g := fun t => t.dm x false) (a := t.low) ht')
            have hd := dm_bd (svB_ok HV.out ht') (x := x) false h0 h1
            have hok := svB_ok HV.out ht'
            rw [← dm_eq] at hd
            have s1 := hS.1
            have s2 := hS.2
            have s3 := hd.1
            have s4 := hd.2
            clear hS hd
            generalize hG : dsum (fun t => t.dm x false) t.low (ts.take j) = S at *
            have HG := Lib.hid hG
            have HK' := Lib.hid hok
            clear hG ht' hok
            go_wp2_with fail
            refine (c_spec_l3Demand _ _ _ _ _ _ _ _ HK'.out h0 h1).mono ?_
            rintro r w2 ⟨rfl, hbw⟩
            have HW := Lib.hid (below2 HB.out hbw)
            clear hbw g0 g1 g2 g3 g4
            go_wp2
            go_roundw
            case rel => exact ⟨j + 1, by omega, by go_num, by rw [hsn.out]; rfl, HW.out⟩
            case measure => simp [intOf]; omega
          · have hjk : j = k := by omega
            have HJ := Lib.hid (show dsum (fun t => t.dm x false) t.low (ts.take j) = fLow ts k t.low x by rw [hjk]; rfl)
            rw [HJ.out]
            clear hjk
            by_cases hfx : fLow ts k t.low x = x
            · have HF := Lib.hid hfx
              have hE : (fLow ts k t.low x == x) = true := by rw [beq_iff_eq]; exact hfx
              clear hfx
              go_wp2
              go_ret2
              refine ⟨ret_val ?_, HB.out⟩
              rw [Climb.found HC.out HF.out hxm]
              rfl
            · have HS := Lib.hid (Climb.step HU.out HC.out hfx)
              have hE : (fLow ts k t.low x == x) = false := by rw [beq_eq_false_iff_ne]; exact hfx
              clear hfx
              go_wp2
              go_roundw
              case rel => exact ⟨_, rfl, HS.out.1, HB.out⟩
              case measure => have := HS.out.2; simp [intOf]; omega
      · go_wp2
        go_ret2
        refine ⟨ret_val ?_, HB.out⟩
        rw [Climb.gone HC.out (by omega)]
        rfl
end Go.Proofs.Ytajbkjoblpbjlaa
