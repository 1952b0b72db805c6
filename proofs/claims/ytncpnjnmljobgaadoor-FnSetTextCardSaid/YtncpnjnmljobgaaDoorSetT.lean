/-
  Contracts on texts: the text of a set.
-/
import Derived.Test.YtncpnjnmljobgaaDoorText2
import Derived.Test.YtncpnjnmljobgaaDoorList
import Derived.Test.YtncpnjnmljobgaaDoorOwnS
import Derived.Test.YtncpnjnmljobgaaDoorLayJ
import Derived.Lib.Join
namespace Go.Proofs.YtncpnjnmljobgaaDoor
set_option maxRecDepth 100000
open Go.RowKit
def tSep : List UInt8 := [59, 32]
/-- What FormatSet answers. -/
def fmtSet (ts : List Tk) : List UInt8 := if svB ts = true then Lib.join (ts.map fmtT) tSep else []
theorem fmtSet_yes {ts : List Tk} (h : svB ts = true) : fmtSet ts = Lib.join (ts.map fmtT) tSep := if_pos h
theorem fmtSet_no {ts : List Tk} (h : svB ts = false) : fmtSet ts = [] := if_neg (by simp [h])
theorem joinTail_snoc (sep : List UInt8) (r : List (List UInt8)) (x : List UInt8) : Lib.joinTail sep (r ++ [x]) = Lib.joinTail sep r ++ (sep ++ x) := by
  unfold Lib.joinTail
  simp
theorem join_snoc {l : List (List UInt8)} (x sep : List UInt8) (h : l ≠ []) : Lib.join (l ++ [x]) sep = Lib.join l sep ++ (sep ++ x) := by
  cases l with
  | nil => exact absurd rfl h
  | cons y r => rw [List.cons_append, Lib.join_cons, Lib.join_cons, joinTail_snoc, List.append_assoc]
theorem fmtT_len {t : Tk} (h : t.ok = true) : (fmtT t).length ≤ 20 := by
  obtain ⟨v1, v2, v3, v4, v5, v6⟩ := tvB_true h
  have l1 := dec_len2 (n := t.low) (by omega)
  have l2 := dec_len2 (n := t.high) (by omega)
  have l3 := dec_len2 (n := t.due) (by omega)
  have l4 := dec_len2 (n := t.every) (by omega)
  rw [fmtT_yes h]
  unfold fmtL tEvery tBy
  cases t.crit <;> by_cases hd : t.due < t.every <;> simp [hd] <;> omega
/-- The text of the first k. -/
def fmtK (ts : List Tk) (k : Nat) : List UInt8 := Lib.join ((ts.take k).map fmtT) tSep
theorem fmtK_zero (ts : List Tk) : fmtK ts 0 = [] := rfl
theorem fmtK_one {ts : List Tk} {t : Tk} (h : ts[0]? = some t) : fmtK ts 1 = fmtT t := by
  unfold fmtK
  rw [show (1 : Nat) = 0 + 1 from rfl, List.take_add_one, h]
  simp [Lib.join_one]
theorem fmtK_more {ts : List Tk} {k : Nat} {t : Tk} (h : ts[k]? = some t) (hk : 0 < k) : fmtK ts (k + 1) = fmtK ts k ++ (tSep ++ fmtT t) := by
  unfold fmtK
  rw [List.take_add_one, h, List.map_append]
  refine join_snoc _ _ ?_
  intro e
  have h1 : (ts.take k).length = 0 := by rw [← List.length_map (f := fmtT), e]; rfl
  rw [List.length_take] at h1
  have := lt_of_at h
  omega
theorem fmtK_len {ts : List Tk} (h : svB ts = true) : ∀ k, k ≤ ts.length → (fmtK ts k).length ≤ 22 * k := by
  intro k
  induction k with
  | zero => intro _; rw [fmtK_zero]; simp
  | succ k ih =>
    intro hk
    obtain ⟨t, ht⟩ : ∃ t, ts[k]? = some t := at_of (by omega)
    have hl := fmtT_len (svB_ok h ht)
    have := ih (by omega)
    cases k with
    | zero => rw [fmtK_one ht]; omega
    | succ k => rw [fmtK_more ht (by omega)]; simp [tSep]; omega
theorem fmtK_all {ts : List Tk} {n : Nat} (h : ts.length = n) : fmtK ts n = Lib.join (ts.map fmtT) tSep := by
  unfold fmtK
  rw [List.take_of_length_le (by omega)]
theorem map_take_snoc {ts : List Tk} {k : Nat} {t : Tk} (h : ts[k]? = some t) : (ts.take (k + 1)).map (fun t => bs (fmtT t)) = (ts.take k).map (fun t => bs (fmtT t)) ++ [bs (fmtT t)] := by
  rw [List.take_add_one, h, List.map_append]
  rfl
theorem L_joinX : Go.Proofs.Builder.Extra Tryd.prog L_join_ren := {
  sizeBuilder := by kernel_rfl
  liesBuilder := by kernel_rfl
  t5 := Tryd.underlying5
  a5 := Tryd.isAgg5
  z5 := Tryd.sizeOf5
  v5 := Tryd.zeroValue5
  infoByte := by kernel_rfl
  cellsByte := by kernel_rfl
  sizeByte := by kernel_rfl
  neB5 := by decide }
theorem c_Join (A : Option Addr) (n c B : Nat) (xs : List ByteArray) (e : TypeId) (w : World) (h : OwnS w B e A n c xs) (hn : n ≤ 1000) (hlen : (Lib.join (xs.map (·.data.toList)) tSep).length ≤ 1000000) :
    Calls Tryd.prog 43 #[.slice A n c, .string { data := #[59, 32] }] w (Ret w (.string (bs (Lib.join (xs.map (·.data.toList)) tSep)))) := by
  rcases h.form' with ⟨rfl, rfl, rfl⟩ | ⟨g, rfl, hg, _, hnc⟩
  · have hx : xs = [] := List.length_eq_zero_iff.1 h.1
    subst hx
    refine (Any.strings_Join_none L_join L_joinX none 0 { data := #[59, 32] } w).mono ?_
    rintro r w' ⟨rfl, rfl⟩
    exact ⟨rfl, Below.refl _ _⟩
  · have hc := Any.strings_Join L_join L_joinX g 0 c xs { data := #[59, 32] } w (fun j x hj => by rw [Nat.zero_add]; exact h.at_ hj) hg (by have := h.1; omega) (by have := h.1; omega) (by
      show (Lib.join (xs.map (·.data.toList)) tSep).length ≤ _
      omega)
    rw [h.1] at hc
    exact hc
set_option maxHeartbeats 1000000 in
theorem c_impl_FormatSet (A : Option Addr) (n c : Nat) (ts : List Tk) (w : World) (h : IsTs w A n ts) (hn : n ≤ 140737488351232) :
    Calls Tryd.prog 22 #[.slice A n c] w (Ret w (.string (bs (fmtSet ts)))) := by
  cases hv : svB ts
  · rw [fmtSet_no hv]
    go_enter Tryd.func22, Tryd.ntmps22
    go_wp2_with fail
    refine (c_impl_SetValid A n c ts w h hn).mono ?_
    rintro r w1 ⟨rfl, hb1⟩
    go_wp2
    go_ret
    exact ⟨rfl, hb1⟩
  · rw [fmtSet_yes hv]
    obtain ⟨i0, hi, hz0, hz1, hz2⟩ := info_parts info_Str
    have HI := Lib.hid (And.intro hi (And.intro hz0 (And.intro hz1 hz2)))
    clear hi hz0 hz1 hz2
    have hl5 := svB_len hv
    have hl := h.1
    have hn5 : n ≤ 5 := by omega
    have HV := Lib.hid hv
    have HL := Lib.hid hl
    have H := Lib.hid h
    clear h hl
    go_enter Tryd.func22, Tryd.ntmps22
    go_wp2_with fail
    refine (c_impl_SetValid A n c ts w H.out hn).mono ?_
    rintro r w1 ⟨rfl, hb1⟩
    have HB1 := Lib.hid (below2 hb1 (below_alloc (.cells #[] 9)))
    have HO1 := Lib.hid (OwnS.empty (e := 9) w1 hb1.size)
    clear hb1
    go_wp2
    clear hv
    go_loopw [3, 12] (fun u i wr => ∃ (k : Nat) (A1 : Option Addr) (c1 : Nat), k ≤ n ∧ i = .int .i64 k ∧ u = .slice A1 k c1 ∧ Below w.heap.size w wr ∧ OwnS wr w.heap.size 9 A1 k c1 ((ts.take k).map (fun t => bs (fmtT t)))) (fun _ i _ => n - (intOf i).toNat)
    case atStart => exact ⟨0, _, 0, Nat.zero_le _, rfl, rfl, HB1.out, HO1.out⟩
    case round =>
      clear HB1 HO1
      obtain ⟨k, A1, c1, hk, rfl, rfl, hb, ho⟩ := hrel
      have HB := Lib.hid hb
      have HO := Lib.hid ho
      clear hb ho
      by_cases hlt : k < n
      · obtain ⟨t, ht⟩ : ∃ t, ts[k]? = some t := at_of (by have := HL.out; omega)
        obtain ⟨b, o, rfl, hbb, h0, h1, h2, h3, h4⟩ := (H.out.below HB.out).2 k t ht
        have HT := Lib.hid ht
        clear ht
        go_wp2_with fail
        refine (c_impl_FormatTask t.low t.high t.due t.every t.crit _).mono ?_
        rintro r w2 ⟨rfl, hb2⟩
        have hbx := below2 (below2 (below_alloc (w := wr) (.cells #[.int .i64 t.low, .int .i64 t.high, .int .i64 t.due, .int .i64 t.every, .bool t.crit] 24)) hb2) (below_alloc (.cells #[.string (bs (fmtT t))] 9))
        have HOA := Lib.hid (HO.out.below hbx)
        have HBA := Lib.hid (below2 HB.out hbx)
        clear hbx hb2
        change Hid _ at HT
        generalize hs : bs (fmtT ⟨t.low, t.high, t.due, t.every, t.crit⟩) = s
        have hs' : bs (fmtT t) = s := hs
        rw [hs'] at HOA HBA
        have HS := Lib.hid hs'
        clear hs hs'
        go_wp2_with (at_builtin; refine wpList_append_string rfl _ _ 55 rfl i0 Tryd.underlying55 HI.out.1 HI.out.2.1 HI.out.2.2.1 HI.out.2.2.2 rfl HOA.out (by omega) _ s rfl (by simp) (HBA.out.size) ?_; intro A2 c2 w3 ho3 hg3; have HO3 := Lib.hid ho3; have HG3 := Lib.hid hg3; clear ho3 hg3)
        go_roundw
        case rel =>
          refine ⟨k + 1, A2, c2, by omega, by go_num, rfl, own_below_s HBA.out HOA.out HG3.out HBA.out.size, ?_⟩
          rw [map_take_snoc HT.out, HS.out]
          exact HO3.out
        case measure => simp [intOf]; omega
      · obtain rfl : k = n := by omega
        have hm : ((ts.take k).map (fun t => bs (fmtT t))).map (·.data.toList) = ts.map fmtT := by
          rw [List.take_of_length_le (by have := HL.out; omega), List.map_map]
          refine List.map_congr_left fun t _ => ?_
          rfl
        have hlen : (Lib.join (ts.map fmtT) tSep).length ≤ 1000000 := by
          have h1 := fmtK_len HV.out k (by have := HL.out; omega)
          rw [fmtK_all HL.out] at h1
          omega
        have hj := c_Join A1 k c1 w.heap.size _ _ wr HO.out (by omega) (by rw [hm]; exact hlen)
        rw [hm] at hj
        have HJ := Lib.hid hj
        clear hj hlen hm
        generalize bs (Lib.join (ts.map fmtT) tSep) = s at *
        go_wp2_with fail
        refine HJ.out.mono ?_
        rintro r w2 ⟨rfl, hb2⟩
        have HB2 := Lib.hid (below2 HB.out hb2)
        clear hb2
        go_wp2
        go_ret
        exact ⟨rfl, HB2.out⟩
set_option maxHeartbeats 1000000 in
theorem c_spec_FormatSet (A : Option Addr) (n c : Nat) (ts : List Tk) (w : World) (h : IsTs w A n ts) (hn : n ≤ 140737488351232) :
    Calls Tryd.prog 23 #[.slice A n c] w (Ret w (.string (bs (fmtSet ts)))) := by
  cases hv : svB ts
  · rw [fmtSet_no hv]
    go_enter Tryd.func23, Tryd.ntmps23
    go_wp2_with fail
    refine (c_spec_SetValid A n c ts w h hn).mono ?_
    rintro r w1 ⟨rfl, hb1⟩
    go_wp2
    go_ret
    exact ⟨rfl, hb1⟩
  · rw [fmtSet_yes hv]
    have hl5 := svB_len hv
    have hl := h.1
    have hn5 : n ≤ 5 := by omega
    have HV := Lib.hid hv
    have HL := Lib.hid hl
    have H := Lib.hid h
    clear h hl
    go_enter Tryd.func23, Tryd.ntmps23
    go_wp2_with fail
    refine (c_spec_SetValid A n c ts w H.out hn).mono ?_
    rintro r w1 ⟨rfl, hb1⟩
    have HB1 := Lib.hid hb1
    clear hb1
    go_wp2
    clear hv
    go_loopw [3, 4] (fun u i wr => ∃ (k : Nat) (s : ByteArray), k ≤ n ∧ i = .int .i64 k ∧ u = .string s ∧ Hid (s = bs (fmtK ts k)) ∧ Below w.heap.size w wr) (fun _ i _ => n - (intOf i).toNat)
    case atStart => exact ⟨0, _, Nat.zero_le _, rfl, rfl, Lib.hid rfl, HB1.out⟩
    case round =>
      clear HB1
      obtain ⟨k, s, hk, rfl, rfl, hs, hb⟩ := hrel
      have HB := Lib.hid hb
      clear hb
      have hsz : s.size ≤ 110 := by
        have := fmtK_len HV.out k (by have := HL.out; omega)
        rw [hs.out, bs_size]
        omega
      by_cases hlt : k < n
      · obtain ⟨t, ht⟩ : ∃ t, ts[k]? = some t := at_of (by have := HL.out; omega)
        obtain ⟨b, o, rfl, hbb, h0, h1, h2, h3, h4⟩ := (H.out.below HB.out).2 k t ht
        have HT := Lib.hid ht
        have CF := Lib.hid (c_spec_FormatTask t.low t.high t.due t.every t.crit)
        obtain ⟨y, hy⟩ : ∃ y, bs (fmtT t) = y := ⟨_, rfl⟩
        have hy' : bs (fmtT ⟨t.low, t.high, t.due, t.every, t.crit⟩) = y := hy
        rw [hy'] at CF
        have hyz : y.size ≤ 20 := by rw [← hy, bs_size]; exact fmtT_len (svB_ok HV.out ht)
        have HY := Lib.hid hy
        clear ht hy hy'
        by_cases hk0 : k = 0
        · subst hk0
          simp only [Nat.zero_mul, Nat.add_zero] at h0 h1 h2 h3 h4
          go_wp2_with fail
          refine (CF.out _).mono ?_
          rintro r w2 ⟨rfl, hb2⟩
          have HB2 := Lib.hid (below2 HB.out hb2)
          clear hb2 h0 h1 h2 h3 h4
          go_wp2
          clear hyz hsz
          go_roundw
          case rel =>
            refine ⟨0 + 1, _, by omega, by go_num, rfl, Lib.hid ?_, HB2.out⟩
            rw [hs.out, fmtK_one HT.out, ← HY.out, fmtK_zero, bs_append]
            rfl
          case measure => simp [intOf]; omega
        · have hkp : (0 : Int) < k := by omega
          go_wp2_with fail
          refine (CF.out _).mono ?_
          rintro r w2 ⟨rfl, hb2⟩
          have HB2 := Lib.hid (below2 HB.out hb2)
          clear hb2 h0 h1 h2 h3 h4
          go_wp2
          clear hyz hsz
          go_roundw
          case rel =>
            refine ⟨k + 1, _, by omega, by go_num, rfl, Lib.hid ?_, HB2.out⟩
            rw [hs.out, fmtK_more HT.out (by omega), ← HY.out, show ({ data := #[59, 32] } : ByteArray) = bs tSep from rfl, bs_append, bs_append, List.append_assoc]
          case measure => simp [intOf]; omega
      · obtain rfl : k = n := by omega
        rw [hs.out, fmtK_all HL.out]
        go_wp2
        go_ret
        exact ⟨rfl, HB.out⟩
end Go.Proofs.YtncpnjnmljobgaaDoor
