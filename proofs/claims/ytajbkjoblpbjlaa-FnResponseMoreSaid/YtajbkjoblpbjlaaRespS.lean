/-
  Contracts of ResponseSwitch.
-/
import Derived.Test.YtajbkjoblpbjlaaRespL
namespace Go.Proofs.Ytajbkjoblpbjlaa
open Go.RowKit
theorem rspS_no {ts : List Tk} {a : Int} (h : rspL ts a = none) : rspS ts a = none := by unfold rspS; rw [h]
theorem rspS_low {ts : List Tk} {k : Nat} {t : Tk} {low : Int} (h : rspL ts k = some low) (ht : ts[k]? = some t) (hc : t.crit = false) : rspS ts k = none := by
  unfold rspS
  simp only [h, Int.toNat_natCast, ht, hc]
  rfl
theorem rspS_yes {ts : List Tk} {k : Nat} {t : Tk} {low : Int} (h : rspL ts k = some low) (ht : ts[k]? = some t) (hc : t.crit = true) : rspS ts k = lfix (fSw ts k low t.high) t.high t.due := by
  unfold rspS
  simp only [h, Int.toNat_natCast, ht, hc]
  rfl
/-- The need of one task at the switch. -/
def swD (low x : Int) (t : Tk) : Int := if t.crit = true then t.dm x true else t.dm low false
theorem swD_yes {low x : Int} {t : Tk} (h : t.crit = true) : swD low x t = dmd t.low t.high t.every x true := if_pos h
theorem swD_no {low x : Int} {t : Tk} (h : t.crit = false) : swD low x t = dmd t.low t.high t.every low false := if_neg (by simp [h])
theorem fSw_eq (ts : List Tk) (k : Nat) (low high x : Int) : fSw ts k low high x = dsum (swD low x) high (ts.take k) := rfl
theorem swD_bd {t : Tk} (ho : t.ok = true) {low x : Int} (l0 : 0 ≤ low) (l1 : low ≤ 1000000000) (w0 : 0 ≤ x) (w1 : x ≤ 1000000000) : 0 ≤ swD low x t ∧ swD low x t ≤ 1000000020 * 20 := by
  unfold swD
  by_cases hc : t.crit = true
  · rw [if_pos hc]; exact dm_bd ho true w0 w1
  · rw [if_neg hc]; exact dm_bd ho false l0 l1
theorem swSum_bd {ts : List Tk} (hv : svB ts = true) {low high x : Int} (hl : 0 ≤ high ∧ high ≤ 20) (l0 : 0 ≤ low) (l1 : low ≤ 1000000000) (h0 : 0 ≤ x) (h1 : x ≤ 1000000000) (j : Nat) :
    high ≤ dsum (swD low x) high (ts.take j) ∧ dsum (swD low x) high (ts.take j) ≤ 1000000000000000 := by
  have h := dsum_bd (g := swD low x) (ts := ts.take j) (B := 1000000020 * 20) (fun t ht => swD_bd (svB_mem hv (List.mem_of_mem_take ht)) l0 l1 h0 h1) high
  have hl5 := svB_len hv
  have hlt : (ts.take j).length ≤ 5 := by rw [List.length_take]; omega
  have hm : ((ts.take j).length : Int) * (1000000020 * 20) ≤ 5 * (1000000020 * 20) := Int.mul_le_mul_of_nonneg_right (by omega) (by omega)
  omega
/-- What a response is. -/
theorem rspL_some {ts : List Tk} {a low : Int} (h : rspL ts a = some low) : svB ts = true ∧ ∃ (k : Nat) (t : Tk), a = k ∧ k < ts.length ∧ ts[k]? = some t ∧ t.ok = true ∧ t.low ≤ low ∧ low ≤ t.due := by
  have hp := rspL_in h
  obtain ⟨hv, k, t, rfl, hk, ht, hok⟩ := plB_at hp
  rw [rspL_yes hp ht] at h
  obtain ⟨h1, h2, _, _⟩ := lfix_out h
  exact ⟨hv, k, t, rfl, hk, ht, hok, h1, h2⟩
set_option maxHeartbeats 1000000 in
theorem c_impl_ResponseSwitch1 (A : Option Addr) (n c k b1 b2 b3 : Nat) (ts : List Tk) (t : Tk) (low x : Int) (w : World) (h : IsTs w A n ts) (hnc : n ≤ c) (hv : svB ts = true) (ht : ts[k]? = some t)
    (hc1 : w.cell? ⟨b1, 0, none⟩ = some (.slice A n c)) (hc2 : w.cell? ⟨b2, 0, none⟩ = some (.int .i64 k)) (hb3 : b3 < w.heap.size) (hc3 : w.cell? ⟨b3, 0, none⟩ = some (.int .i64 low)) (l0 : 0 ≤ low) (l1 : low ≤ 1000000000) (h0 : 0 ≤ x) (h1 : x ≤ 1000000000) :
    Calls Try.prog 41 #[.int .i64 x, .pointer (some ⟨b1, 0, none⟩), .pointer (some ⟨b2, 0, none⟩), .pointer (some ⟨b3, 0, none⟩)] w (Ret w (.int .i64 (fSw ts k low t.high x))) := by
  rw [fSw_eq]
  have hkn : k < n := by have := lt_of_at ht; have := h.1; omega
  have hl5 := svB_len hv
  have hn5 : n ≤ 5 := by have := h.1; omega
  obtain ⟨b, o, rfl, hbb, g0, g1, g2, g3, g4⟩ := h.2 k t ht
  have HT := Lib.hid ht
  have H := Lib.hid h
  have HV := Lib.hid hv
  have HL := Lib.hid h.1
  have HC3 := Lib.hid hc3
  clear ht h hv g0 g2 g3 g4 hc3
  go_enter Try.func41, Try.ntmps41
  go_wp2
  clear g1
  go_loopw [6, 18] (fun u i wr => ∃ j : Nat, j ≤ k ∧ i = .int .i64 j ∧ u = .int .i64 (dsum (swD low x) t.high (ts.take j)) ∧ Below w.heap.size w wr) (fun _ i _ => k - (intOf i).toNat)
  case atStart => exact ⟨0, Nat.zero_le _, rfl, rfl, Below.refl _ _⟩
  case round =>
    obtain ⟨j, hj, rfl, rfl, hb⟩ := hrel
    have HB := Lib.hid hb
    have hc3 := ((bcell hb).1 b3 0 hb3).trans HC3.out
    have hb3' : b3 < wr.heap.size := Nat.lt_of_lt_of_le hb3 hb.size
    clear hb
    by_cases hlt : j < k
    · obtain ⟨t', ht'⟩ : ∃ t, ts[j]? = some t := at_of (by have := HL.out; omega)
      obtain ⟨b', o', e', hbb', g0, g1, g2, g3, g4⟩ := (H.out.below HB.out).2 j t' ht'
      injection e' with e'
      injection e' with e1 e2
      subst e1 e2
      have hS := swSum_bd HV.out (low := low) (high := t.high) (by have := ok_small (svB_ok HV.out HT.out); omega) l0 l1 h0 h1 j
      have hsn := Lib.hid (dsum_take (g := swD low x) (a := t.high) ht')
      have hd := swD_bd (svB_ok HV.out ht') l0 l1 h0 h1
      have hok := svB_ok HV.out ht'
      have s1 := hS.1
      have s2 := hS.2
      have s5 := (ok_small (svB_ok HV.out HT.out)).2.1.1
      clear hS
      generalize hG : dsum (swD low x) t.high (ts.take j) = S at *
      have HG := Lib.hid hG
      have HK := Lib.hid hok
      clear hG ht' hok
      cases hcr : t'.crit
      · rw [hcr] at g4
        rw [swD_no hcr] at hd
        have s3 := hd.1
        have s4 := hd.2
        have HCR := Lib.hid hcr
        have HK' := Lib.hid (show tvB t'.low t'.high t'.due t'.every false = true by have := HK.out; unfold Tk.ok at this; rwa [HCR.out] at this)
        clear hd hcr
        go_wp2_with fail
        refine (c_impl_demand _ _ _ _ _ _ _ _ HK'.out l0 l1).mono ?_
        rintro r w1 ⟨rfl, hbw⟩
        have HW := Lib.hid (below2 HB.out (below2 (below_alloc _) hbw))
        clear hbw g0 g1 g2 g3 g4
        go_wp2
        go_roundw
        case rel => exact ⟨j + 1, by omega, by go_num, by rw [hsn.out, swD_no HCR.out], HW.out⟩
        case measure => simp [intOf]; omega
      · rw [hcr] at g4
        rw [swD_yes hcr] at hd
        have s3 := hd.1
        have s4 := hd.2
        have HCR := Lib.hid hcr
        have HK' := Lib.hid (show tvB t'.low t'.high t'.due t'.every true = true by have := HK.out; unfold Tk.ok at this; rwa [HCR.out] at this)
        clear hd hcr
        go_wp2_with fail
        refine (c_impl_demand _ _ _ _ _ _ _ _ HK'.out h0 h1).mono ?_
        rintro r w1 ⟨rfl, hbw⟩
        have HW := Lib.hid (below2 HB.out (below2 (below_alloc _) hbw))
        clear hbw g0 g1 g2 g3 g4
        go_wp2
        go_roundw
        case rel => exact ⟨j + 1, by omega, by go_num, by rw [hsn.out, swD_yes HCR.out], HW.out⟩
        case measure => simp [intOf]; omega
    · go_wp2
      go_ret
      refine ⟨ret_int ?_, HB.out⟩
      rw [show j = k by omega]
set_option maxHeartbeats 1000000 in
theorem c_impl_ResponseSwitch (A : Option Addr) (n c : Nat) (ts : List Tk) (a : Int) (w : World) (h : IsTs w A n ts) (hn : n ≤ 140737488351232) (hnc : n ≤ c) :
    Calls Try.prog 17 #[.slice A n c, .int .i64 a] w (Ret w (.tuple #[.int .i64 (ansN (rspS ts a)), .bool (ansB (rspS ts a))])) := by
  have hba := below2 (below_alloc (w := w) (.cells #[.slice A n c] 26)) (below_alloc (.cells #[.int .i64 a] 3))
  have H := Lib.hid (h.below hba)
  have HA := Lib.hid hba
  have HL := Lib.hid h.1
  clear h hba
  cases hr : rspL ts a with
  | none =>
    rw [rspS_no hr]
    have HR := Lib.hid hr
    clear hr
    go_enter Try.func17, Try.ntmps17
    go_wp2_with fail
    refine (c_impl_ResponseLow A n c ts a _ H.out hn hnc).mono ?_
    rintro r w1 ⟨rfl, hb1⟩
    rw [HR.out]
    have HB := Lib.hid (below2 (below2 HA.out hb1) (below_alloc (.cells #[.int .i64 (ansN none)] 3)))
    clear hb1
    go_wp2
    go_ret2
    exact ⟨rfl, HB.out⟩
  | some low =>
    obtain ⟨hv, k, t, rfl, hk, ht, hok, hl1, hl2⟩ := rspL_some hr
    have hs := ok_small hok
    have hl5 := svB_len hv
    have hn5 : n ≤ 5 := by have := HL.out; omega
    have hkn : k < n := by have := HL.out; omega
    have l0 : 0 ≤ low := by omega
    have l1 : low ≤ 1000000000 := by omega
    have HR := Lib.hid hr
    have HV := Lib.hid hv
    have HT := Lib.hid ht
    have HK := Lib.hid hok
    cases hcr : t.crit
    · rw [rspS_low hr ht hcr]
      clear hr hv ht hok hs hl1 hl2
      go_enter Try.func17, Try.ntmps17
      go_wp2_with fail
      refine (c_impl_ResponseLow A n c ts k _ H.out hn hnc).mono ?_
      rintro r w1 ⟨rfl, hb1⟩
      rw [HR.out]
      have hb2 := below2 hb1 (below_alloc (.cells #[.int .i64 low] 3))
      have HB := Lib.hid (below2 HA.out hb2)
      have q1 := (bcell hb1).1 w.heap.size 0 (by simp; omega)
      have q2 := (bcell hb1).1 (w.heap.size + 1) 0 (by simp)
      have hz := lt2 hb1
      simp at q1 q2
      obtain ⟨b, o, rfl, hbb, g0, g1, g2, g3, g4⟩ := (H.out.below hb1).2 k t HT.out
      rw [hcr] at g4
      clear hb1 hb2 g0 g1 g2 g3 hcr
      go_wp2
      go_ret2
      exact ⟨rfl, HB.out⟩
    · rw [rspS_yes hr ht hcr]
      have HU := Lib.hid (fSw_up hv k (low := low) (high := t.high) l0 l1 (by omega) (by omega))
      clear hr hv ht hok hs hl1 hl2
      have hmf : ∀ (fn : Fn) (first cap : Array Value) (w : World), (Instr.makeFunc fn first cap).run Try.prog w = .ok (.func fn first cap) w := fun _ _ _ _ => rfl
      go_enter Try.func17, Try.ntmps17
      go_wp2_with fail
      refine (c_impl_ResponseLow A n c ts k _ H.out hn hnc).mono ?_
      rintro r w1 ⟨rfl, hb1⟩
      rw [HR.out]
      have q1 := (bcell hb1).1 w.heap.size 0 (by simp; omega)
      have q2 := (bcell hb1).1 (w.heap.size + 1) 0 (by simp)
      have hz := lt2 hb1
      simp at q1 q2
      have hI := H.out.below hb1
      obtain ⟨b, o, rfl, hbb, g0, g1, g2, g3, g4⟩ := hI.2 k t HT.out
      rw [hcr] at g4
      have HB := Lib.hid (below2 (below2 HA.out hb1) (below_alloc (.cells #[.int .i64 low] 3)))
      have HI := Lib.hid (hI.below (below_alloc (.cells #[.int .i64 low] 3)))
      clear hb1 g0 g3 hcr hI
      go_wp2_with fail
      have HCl := Lib.hid (show ∀ (W : World) (x : Int), Below (w1.alloc (.cells #[.int .i64 low] 3)).heap.size (w1.alloc (.cells #[.int .i64 low] 3)) W → t.high ≤ x → x ≤ t.due → Calls Try.prog 41 (#[.int .i64 x] ++ #[.pointer (some ⟨w.heap.size, 0, none⟩), .pointer (some ⟨w.heap.size + 1, 0, none⟩), .pointer (some ⟨w1.heap.size, 0, none⟩)]) W (Ret W (.int .i64 (fSw ts k low t.high x))) from fun W x hb hx hx' =>
        have hk := ok_small HK.out
        have hs : w1.heap.size < W.heap.size := by have := hb.size; simp at this; omega
        c_impl_ResponseSwitch1 (some ⟨b, o, none⟩) n c k w.heap.size (w.heap.size + 1) w1.heap.size ts t low x W (HI.out.below hb) hnc HV.out HT.out
          (((bcell hb).1 w.heap.size 0 (by simp; omega)).trans (((bcell (below_alloc _)).1 w.heap.size 0 hz.1).trans q1)) (((bcell hb).1 (w.heap.size + 1) 0 (by simp; omega)).trans (((bcell (below_alloc _)).1 (w.heap.size + 1) 0 hz.2).trans q2)) hs
          (((bcell hb).1 w1.heap.size 0 (by simp)).trans (by simp)) l0 l1 (by omega) (by omega))
      go_region_held3 (fun w' => w'.cell? ⟨w.heap.size, 0, none⟩ = some (.slice (some ⟨b, o, none⟩) n c) ∧ w'.cell? ⟨w.heap.size + 1, 0, none⟩ = some (.int .i64 k) ∧ w'.cell? ⟨b, o + k * 5 + 1, none⟩ = some (.int .i64 t.high) ∧ w'.cell? ⟨b, o + k * 5 + 2, none⟩ = some (.int .i64 t.due)) (go_keep) (first
        | (go_at_call 40; go_must (refine (c_rises_impl_ResponseSwitch_1 _ (fSw ts k low t.high) t.high t.due _ HU.out (fun W x hb => HCl.out W x (below_undrew hb))).mono ?_; rintro r w2 ⟨rfl, hb2⟩; have x1 := ((bcell hb2).1 w.heap.size 0 (by simp; omega)).trans (((bcell (below_alloc _)).1 w.heap.size 0 hz.1).trans q1); have x2 := ((bcell hb2).1 (w.heap.size + 1) 0 (by simp; omega)).trans (((bcell (below_alloc _)).1 (w.heap.size + 1) 0 hz.2).trans q2); have x3 := ((bcell hb2).1 b (o + k * 5 + 1) (by simp; omega)).trans (((bcell (below_alloc _)).1 b (o + k * 5 + 1) hbb).trans g1); have x4 := ((bcell hb2).1 b (o + k * 5 + 2) (by simp; omega)).trans (((bcell (below_alloc _)).1 b (o + k * 5 + 2) hbb).trans g2))))
      all_goals
        go_wp2
        go_ret2
        exact ⟨rfl, below2 HB.out (below_undrew hb2)⟩
set_option maxHeartbeats 2000000 in
theorem c_spec_ResponseSwitch (A : Option Addr) (n c : Nat) (ts : List Tk) (a : Int) (w : World) (h : IsTs w A n ts) (hn : n ≤ 140737488351232) :
    Calls Try.prog 15 #[.slice A n c, .int .i64 a] w (Ret w (.tuple #[.int .i64 (ansN (rspS ts a)), .bool (ansB (rspS ts a))])) := by
  have HL := Lib.hid h.1
  have H := Lib.hid h
  clear h
  cases hr : rspL ts a with
  | none =>
    rw [rspS_no hr]
    have HR := Lib.hid hr
    clear hr
    go_enter Try.func15, Try.ntmps15
    go_wp2_with fail
    refine (c_spec_ResponseLow A n c ts a _ H.out hn).mono ?_
    rintro r w1 ⟨rfl, hb1⟩
    rw [HR.out]
    have HB := Lib.hid hb1
    clear hb1
    go_wp2
    go_ret2
    exact ⟨rfl, HB.out⟩
  | some low =>
    obtain ⟨hv, k, t, rfl, hk, ht, hok, hl1, hl2⟩ := rspL_some hr
    have hs := ok_small hok
    have hl5 := svB_len hv
    have hn5 : n ≤ 5 := by have := HL.out; omega
    have hkn : k < n := by have := HL.out; omega
    have l0 : 0 ≤ low := by omega
    have l1 : low ≤ 1000000000 := by omega
    have HR := Lib.hid hr
    have HV := Lib.hid hv
    have HT := Lib.hid ht
    cases hcr : t.crit
    · rw [rspS_low hr ht hcr]
      clear hr hv ht hok hs hl1 hl2
      go_enter Try.func15, Try.ntmps15
      go_wp2_with fail
      refine (c_spec_ResponseLow A n c ts k _ H.out hn).mono ?_
      rintro r w1 ⟨rfl, hb1⟩
      rw [HR.out]
      have HB := Lib.hid hb1
      obtain ⟨b, o, rfl, hbb, g0, g1, g2, g3, g4⟩ := (H.out.below hb1).2 k t HT.out
      rw [hcr] at g4
      clear hb1 g0 g1 g2 g3 hcr
      go_wp2
      go_ret2
      exact ⟨rfl, HB.out⟩
    · rw [rspS_yes hr ht hcr]
      have hh1 := hs.2.1.1
      have hh2 := hs.2.1.2
      have d2 := hs.2.2.1.2
      have HU := Lib.hid (fSw_up hv k (low := low) (high := t.high) l0 l1 (by omega) (by omega))
      clear hr hv ht hok hs hl1 hl2
      go_enter Try.func15, Try.ntmps15
      go_wp2_with fail
      refine (c_spec_ResponseLow A n c ts k _ H.out hn).mono ?_
      rintro r w1 ⟨rfl, hb1⟩
      rw [HR.out]
      have HB1 := Lib.hid hb1
      obtain ⟨b, o, rfl, hbb, g0, g1, g2, g3, g4⟩ := (H.out.below hb1).2 k t HT.out
      rw [hcr] at g4
      clear hb1 g0 g2 g3 hcr
      go_wp2
      clear g1 g4 hbb
      go_loopw [8] (fun u wr => ∃ x : Int, u = .int .i64 x ∧ Climb (fSw ts k low t.high) t.high x ∧ Below w.heap.size w wr) (fun u _ => (t.due + 1 - intOf u).toNat)
      case atStart => exact ⟨t.high, rfl, Climb.start HU.out, HB1.out⟩
      case round =>
        clear HB1
        obtain ⟨x, rfl, hcl, hb⟩ := hrel
        have HB := Lib.hid hb
        have HC := Lib.hid hcl
        have hx0 : t.high ≤ x := hcl.1
        obtain ⟨b', o', e', hbb, g0, g1, g2, g3, g4⟩ := (H.out.below hb).2 k t HT.out
        injection e' with e'
        injection e' with e1 e2
        subst e1 e2
        clear hb hcl g0 g3 g4
        obtain ⟨wo, rfl⟩ : ∃ wo : World, wo = wr := ⟨_, rfl⟩
        by_cases hxm : x ≤ t.due
        · have h0 : 0 ≤ x := by omega
          have h1 : x ≤ 1000000000 := by omega
          go_wp2
          clear g1 g2 hbb
          go_loopw [9, 10] (fun u i wr => ∃ j : Nat, j ≤ k ∧ i = .int .i64 j ∧ u = .int .i64 (dsum (swD low x) t.high (ts.take j)) ∧ Below w.heap.size w wr) (fun _ i _ => k - (intOf i).toNat)
          case atStart => exact ⟨0, Nat.zero_le _, rfl, rfl, HB.out⟩
          case round =>
            clear HB
            obtain ⟨j, hj, rfl, rfl, hb⟩ := hrel
            have HB := Lib.hid hb
            clear hb
            by_cases hlt : j < k
            · obtain ⟨t', ht'⟩ : ∃ t, ts[j]? = some t := at_of (by have := HL.out; omega)
              obtain ⟨b', o', e', hbb', g0, g1, g2, g3, g4⟩ := (H.out.below HB.out).2 j t' ht'
              injection e' with e'
              injection e' with e1 e2
              subst e1 e2
              have hS := swSum_bd HV.out (low := low) (high := t.high) (by omega) l0 l1 h0 h1 j
              have hsn := Lib.hid (dsum_take (g := swD low x) (a := t.high) ht')
              have hd := swD_bd (svB_ok HV.out ht') l0 l1 h0 h1
              have hok := svB_ok HV.out ht'
              have s1 := hS.1
              have s2 := hS.2
              clear hS
              generalize hG : dsum (swD low x) t.high (ts.take j) = S at *
              have HG := Lib.hid hG
              have HK := Lib.hid hok
              clear hG ht' hok
              cases hcr : t'.crit
              · rw [hcr] at g4
                rw [swD_no hcr] at hd
                have s3 := hd.1
                have s4 := hd.2
                have HCR := Lib.hid hcr
                have HK' := Lib.hid (show tvB t'.low t'.high t'.due t'.every false = true by have := HK.out; unfold Tk.ok at this; rwa [HCR.out] at this)
                clear hd hcr
                go_wp2_with fail
                refine (c_spec_l3Demand _ _ _ _ _ _ _ _ HK'.out l0 l1).mono ?_
                rintro r w2 ⟨rfl, hbw⟩
                have HW := Lib.hid (below2 HB.out hbw)
                clear hbw g0 g1 g2 g3 g4
                go_wp2
                go_roundw
                case rel => exact ⟨j + 1, by omega, by go_num, by rw [hsn.out, swD_no HCR.out], HW.out⟩
                case measure => simp [intOf]; omega
              · rw [hcr] at g4
                rw [swD_yes hcr] at hd
                have s3 := hd.1
                have s4 := hd.2
                have HCR := Lib.hid hcr
                have HK' := Lib.hid (show tvB t'.low t'.high t'.due t'.every true = true by have := HK.out; unfold Tk.ok at this; rwa [HCR.out] at this)
                clear hd hcr
                go_wp2_with fail
                refine (c_spec_l3Demand _ _ _ _ _ _ _ _ HK'.out h0 h1).mono ?_
                rintro r w2 ⟨rfl, hbw⟩
                have HW := Lib.hid (below2 HB.out hbw)
                clear hbw g0 g1 g2 g3 g4
                go_wp2
                go_roundw
                case rel => exact ⟨j + 1, by omega, by go_num, by rw [hsn.out, swD_yes HCR.out], HW.out⟩
                case measure => simp [intOf]; omega
            · have hjk : j = k := by omega
              have HJ := Lib.hid (show dsum (swD low x) t.high (ts.take j) = fSw ts k low t.high x by rw [hjk]; rfl)
              rw [HJ.out]
              clear hjk
              by_cases hfx : fSw ts k low t.high x = x
              · have HF := Lib.hid hfx
                have hE : (fSw ts k low t.high x == x) = true := by rw [beq_iff_eq]; exact hfx
                clear hfx
                go_wp2
                go_ret2
                refine ⟨ret_val ?_, HB.out⟩
                rw [Climb.found HC.out HF.out hxm]
                rfl
              · have HS := Lib.hid (Climb.step HU.out HC.out hfx)
                have hE : (fSw ts k low t.high x == x) = false := by rw [beq_eq_false_iff_ne]; exact hfx
                clear hfx
                go_wp2
                go_roundw
                case rel => exact ⟨_, rfl, HS.out.1, HB.out⟩
                case measure => have := HS.out.2; simp [intOf]; omega
        · go_wp2
          go_ret2
          refine ⟨ret_val ?_, HB.out⟩
          rw [Climb.gone HC.out (by omega)]
          rfl
end Go.Proofs.Ytajbkjoblpbjlaa
