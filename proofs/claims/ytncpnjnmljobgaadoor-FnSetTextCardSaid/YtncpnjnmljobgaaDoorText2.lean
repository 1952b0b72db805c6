/-
  Contracts on texts: the text of a task.
-/
import Derived.Test.YtncpnjnmljobgaaDoorText
import Derived.Test.YtncpnjnmljobgaaDoorLayT
namespace Go.Proofs.YtncpnjnmljobgaaDoor
set_option maxRecDepth 100000
open Go.RowKit
theorem bs_assoc (a b c : ByteArray) : a ++ b ++ c = a ++ (b ++ c) := ByteArray.append_assoc
theorem c_Itoa (n : Int) (w : World) (h0 : 0 ≤ n) (h1 : n ≤ 99) : Calls Tryd.prog 30 #[.int .i64 n] w fun e w' => e = .returned (.string (bs (dec n))) ∧ w' = w := by
  have h := Any.strconv_Itoa_small L_itoa n.toNat (by omega) w
  rw [show ((n.toNat : Nat) : Int) = n by omega] at h
  exact h
theorem ret_string {a b : ByteArray} (h : a = b) : Ending.returned (.string a) = Ending.returned (.string b) := by rw [h]
theorem bs_cons (c : UInt8) (l : List UInt8) : bs (c :: l) = bs [c] ++ bs l := by rw [bs_append]; rfl
theorem fmtL_ff {l h d e : Int} (hd : ¬ d < e) : bs (fmtL l h d e false) = bs (dec l) ++ bs tEvery ++ bs (dec e) := by
  unfold fmtL
  simp [hd, bs_append]
theorem fmtL_ft {l h d e : Int} (hd : d < e) : bs (fmtL l h d e false) = bs (dec l) ++ bs tEvery ++ bs (dec e) ++ bs tBy ++ bs (dec d) := by
  unfold fmtL
  simp [hd, bs_append]
theorem fmtL_tf {l h d e : Int} (hd : ¬ d < e) : bs (fmtL l h d e true) = bs (dec l) ++ bs [47] ++ bs (dec h) ++ bs tEvery ++ bs (dec e) := by
  unfold fmtL
  simp [hd, bs_append]
theorem fmtL_tt {l h d e : Int} (hd : d < e) : bs (fmtL l h d e true) = bs (dec l) ++ bs [47] ++ bs (dec h) ++ bs tEvery ++ bs (dec e) ++ bs tBy ++ bs (dec d) := by
  unfold fmtL
  simp [hd, bs_append]
set_option maxHeartbeats 2000000 in
theorem c_impl_FormatTask (l h d e : Int) (c : Bool) (w : World) : Calls Tryd.prog 9 #[.agg #[.int .i64 l, .int .i64 h, .int .i64 d, .int .i64 e, .bool c]] w (Ret w (.string (bs (fmtT ⟨l, h, d, e, c⟩)))) := by
  cases hv : tvB l h d e c
  · rw [fmtT_no (t := ⟨l, h, d, e, c⟩) hv]
    have hval := Lib.hid (c_impl_TaskValid l h d e c)
    rw [hv] at hval
    clear hv
    go_enter Tryd.func9, Tryd.ntmps9
    go_wp2_with fail
    refine (hval.out _).mono ?_
    rintro r w1 ⟨rfl, hb1⟩
    have HB := Lib.hid (below2 (below_alloc (w := w) (.cells #[.int .i64 l, .int .i64 h, .int .i64 d, .int .i64 e, .bool c] 24)) hb1)
    clear hb1
    go_wp2
    go_ret
    exact ⟨rfl, HB.out⟩
  · rw [fmtT_yes (t := ⟨l, h, d, e, c⟩) hv]
    have HS := Lib.hid (And.intro (And.intro (fun hd : ¬ d < e => fmtL_ff (l := l) (h := h) hd) (fun hd : d < e => fmtL_ft (l := l) (h := h) hd)) (And.intro (fun hd : ¬ d < e => fmtL_tf (l := l) (h := h) hd) (fun hd : d < e => fmtL_tt (l := l) (h := h) hd)))
    have hval := Lib.hid (c_impl_TaskValid l h d e c)
    rw [hv] at hval
    obtain ⟨v1, v2, v3, v4, v5, v6⟩ := tvB_true hv
    have zl : (bs (dec l)).size ≤ 2 := by rw [bs_size]; exact dec_len2 (by omega)
    have zh : (bs (dec h)).size ≤ 2 := by rw [bs_size]; exact dec_len2 (by omega)
    have zd : (bs (dec d)).size ≤ 2 := by rw [bs_size]; exact dec_len2 (by omega)
    have ze : (bs (dec e)).size ≤ 2 := by rw [bs_size]; exact dec_len2 (by omega)
    have HV := Lib.hid (show 0 ≤ l ∧ l ≤ 99 ∧ 0 ≤ h ∧ h ≤ 99 ∧ 0 ≤ d ∧ d ≤ 99 ∧ 0 ≤ e ∧ e ≤ 99 by omega)
    clear hv v1 v2 v3 v4 v5 v6
    generalize hsl : bs (dec l) = sl at *
    generalize hsh : bs (dec h) = sh at *
    generalize hsd : bs (dec d) = sd at *
    generalize hse : bs (dec e) = se at *
    have CL := Lib.hid (show ∀ W, Calls Tryd.prog 30 #[.int .i64 l] W (fun r W' => r = .returned (.string sl) ∧ W' = W) from fun W => by rw [← hsl]; exact c_Itoa l W HV.out.1 (by have := HV.out; omega))
    have CH := Lib.hid (show ∀ W, Calls Tryd.prog 30 #[.int .i64 h] W (fun r W' => r = .returned (.string sh) ∧ W' = W) from fun W => by rw [← hsh]; exact c_Itoa h W HV.out.2.2.1 (by have := HV.out; omega))
    have CD := Lib.hid (show ∀ W, Calls Tryd.prog 30 #[.int .i64 d] W (fun r W' => r = .returned (.string sd) ∧ W' = W) from fun W => by rw [← hsd]; exact c_Itoa d W HV.out.2.2.2.2.1 (by have := HV.out; omega))
    have CE := Lib.hid (show ∀ W, Calls Tryd.prog 30 #[.int .i64 e] W (fun r W' => r = .returned (.string se) ∧ W' = W) from fun W => by rw [← hse]; exact c_Itoa e W HV.out.2.2.2.2.2.2.1 (by have := HV.out; omega))
    clear hsl hsh hsd hse
    by_cases hde : d < e
    · cases c
      · have HQ := Lib.hid (HS.out.1.2 hde)
        clear HS
        go_enter Tryd.func9, Tryd.ntmps9
        go_wp2_with fail
        refine (hval.out _).mono ?_
        rintro r w1 ⟨rfl, hb1⟩
        have HB1 := Lib.hid (below2 (below_alloc (w := w) (.cells #[.int .i64 l, .int .i64 h, .int .i64 d, .int .i64 e, .bool false] 24)) hb1)
        have HF1 := Lib.hid ((Five.new w 24 (.int .i64 l) (.int .i64 h) (.int .i64 d) (.int .i64 e) (.bool false)).below hb1)
        clear hb1
        obtain ⟨f0, f1, f2, f3, f4, f5⟩ := HF1.out
        go_wp2_with fail
        refine (CL.out _).mono ?_
        rintro r w2 ⟨rfl, rfl⟩
        have HB2 := HB1
        have HF2 := HF1
        clear f0 f1 f2 f3 f4 f5
        obtain ⟨f0, f1, f2, f3, f4, f5⟩ := HF2.out
        go_wp2_with fail
        refine (CE.out _).mono ?_
        rintro r w3 ⟨rfl, rfl⟩
        have HB3 := HB2
        have HF3 := HF2
        clear f0 f1 f2 f3 f4 f5
        obtain ⟨f0, f1, f2, f3, f4, f5⟩ := HF3.out
        go_wp2_with fail
        refine (CD.out _).mono ?_
        rintro r w4 ⟨rfl, rfl⟩
        have HB4 := HB3
        have HF4 := HF3
        clear f0 f1 f2 f3 f4 f5
        obtain ⟨f0, f1, f2, f3, f4, f5⟩ := HF4.out
        go_wp2
        go_ret
        refine ⟨?_, HB4.out⟩
        rw [HQ.out]
        refine ret_string ?_
        first | rfl | (simp only [bs_assoc]; rfl)
      · have HQ := Lib.hid (HS.out.2.2 hde)
        clear HS
        go_enter Tryd.func9, Tryd.ntmps9
        go_wp2_with fail
        refine (hval.out _).mono ?_
        rintro r w1 ⟨rfl, hb1⟩
        have HB1 := Lib.hid (below2 (below_alloc (w := w) (.cells #[.int .i64 l, .int .i64 h, .int .i64 d, .int .i64 e, .bool true] 24)) hb1)
        have HF1 := Lib.hid ((Five.new w 24 (.int .i64 l) (.int .i64 h) (.int .i64 d) (.int .i64 e) (.bool true)).below hb1)
        clear hb1
        obtain ⟨f0, f1, f2, f3, f4, f5⟩ := HF1.out
        go_wp2_with fail
        refine (CL.out _).mono ?_
        rintro r w2 ⟨rfl, rfl⟩
        have HB2 := HB1
        have HF2 := HF1
        clear f0 f1 f2 f3 f4 f5
        obtain ⟨f0, f1, f2, f3, f4, f5⟩ := HF2.out
        go_wp2_with fail
        refine (CH.out _).mono ?_
        rintro r w3 ⟨rfl, rfl⟩
        have HB3 := HB2
        have HF3 := HF2
        clear f0 f1 f2 f3 f4 f5
        obtain ⟨f0, f1, f2, f3, f4, f5⟩ := HF3.out
        go_wp2_with fail
        refine (CE.out _).mono ?_
        rintro r w4 ⟨rfl, rfl⟩
        have HB4 := HB3
        have HF4 := HF3
        clear f0 f1 f2 f3 f4 f5
        obtain ⟨f0, f1, f2, f3, f4, f5⟩ := HF4.out
        go_wp2_with fail
        refine (CD.out _).mono ?_
        rintro r w5 ⟨rfl, rfl⟩
        have HB5 := HB4
        have HF5 := HF4
        clear f0 f1 f2 f3 f4 f5
        obtain ⟨f0, f1, f2, f3, f4, f5⟩ := HF5.out
        go_wp2
        go_ret
        refine ⟨?_, HB5.out⟩
        rw [HQ.out]
        refine ret_string ?_
        first | rfl | (simp only [bs_assoc]; rfl)
    · cases c
      · have HQ := Lib.hid (HS.out.1.1 hde)
        clear HS
        go_enter Tryd.func9, Tryd.ntmps9
        go_wp2_with fail
        refine (hval.out _).mono ?_
        rintro r w1 ⟨rfl, hb1⟩
        have HB1 := Lib.hid (below2 (below_alloc (w := w) (.cells #[.int .i64 l, .int .i64 h, .int .i64 d, .int .i64 e, .bool false] 24)) hb1)
        have HF1 := Lib.hid ((Five.new w 24 (.int .i64 l) (.int .i64 h) (.int .i64 d) (.int .i64 e) (.bool false)).below hb1)
        clear hb1
        obtain ⟨f0, f1, f2, f3, f4, f5⟩ := HF1.out
        go_wp2_with fail
        refine (CL.out _).mono ?_
        rintro r w2 ⟨rfl, rfl⟩
        have HB2 := HB1
        have HF2 := HF1
        clear f0 f1 f2 f3 f4 f5
        obtain ⟨f0, f1, f2, f3, f4, f5⟩ := HF2.out
        go_wp2_with fail
        refine (CE.out _).mono ?_
        rintro r w3 ⟨rfl, rfl⟩
        have HB3 := HB2
        have HF3 := HF2
        clear f0 f1 f2 f3 f4 f5
        obtain ⟨f0, f1, f2, f3, f4, f5⟩ := HF3.out
        go_wp2
        go_ret
        refine ⟨?_, HB3.out⟩
        rw [HQ.out]
        refine ret_string ?_
        first | rfl | (simp only [bs_assoc]; rfl)
      · have HQ := Lib.hid (HS.out.2.1 hde)
        clear HS
        go_enter Tryd.func9, Tryd.ntmps9
        go_wp2_with fail
        refine (hval.out _).mono ?_
        rintro r w1 ⟨rfl, hb1⟩
        have HB1 := Lib.hid (below2 (below_alloc (w := w) (.cells #[.int .i64 l, .int .i64 h, .int .i64 d, .int .i64 e, .bool true] 24)) hb1)
        have HF1 := Lib.hid ((Five.new w 24 (.int .i64 l) (.int .i64 h) (.int .i64 d) (.int .i64 e) (.bool true)).below hb1)
        clear hb1
        obtain ⟨f0, f1, f2, f3, f4, f5⟩ := HF1.out
        go_wp2_with fail
        refine (CL.out _).mono ?_
        rintro r w2 ⟨rfl, rfl⟩
        have HB2 := HB1
        have HF2 := HF1
        clear f0 f1 f2 f3 f4 f5
        obtain ⟨f0, f1, f2, f3, f4, f5⟩ := HF2.out
        go_wp2_with fail
        refine (CH.out _).mono ?_
        rintro r w3 ⟨rfl, rfl⟩
        have HB3 := HB2
        have HF3 := HF2
        clear f0 f1 f2 f3 f4 f5
        obtain ⟨f0, f1, f2, f3, f4, f5⟩ := HF3.out
        go_wp2_with fail
        refine (CE.out _).mono ?_
        rintro r w4 ⟨rfl, rfl⟩
        have HB4 := HB3
        have HF4 := HF3
        clear f0 f1 f2 f3 f4 f5
        obtain ⟨f0, f1, f2, f3, f4, f5⟩ := HF4.out
        go_wp2
        go_ret
        refine ⟨?_, HB4.out⟩
        rw [HQ.out]
        refine ret_string ?_
        first | rfl | (simp only [bs_assoc]; rfl)
set_option maxHeartbeats 2000000 in
theorem c_spec_FormatTask (l h d e : Int) (c : Bool) (w : World) : Calls Tryd.prog 12 #[.agg #[.int .i64 l, .int .i64 h, .int .i64 d, .int .i64 e, .bool c]] w (Ret w (.string (bs (fmtT ⟨l, h, d, e, c⟩)))) := by
  cases hv : tvB l h d e c
  · rw [fmtT_no (t := ⟨l, h, d, e, c⟩) hv]
    have hval := Lib.hid (c_spec_TaskValid l h d e c)
    rw [hv] at hval
    clear hv
    go_enter Tryd.func12, Tryd.ntmps12
    go_wp2_with fail
    refine (hval.out _).mono ?_
    rintro r w1 ⟨rfl, hb1⟩
    have HB := Lib.hid (below2 (below_alloc (w := w) (.cells #[.int .i64 l, .int .i64 h, .int .i64 d, .int .i64 e, .bool c] 24)) hb1)
    clear hb1
    go_wp2
    go_ret
    exact ⟨rfl, HB.out⟩
  · rw [fmtT_yes (t := ⟨l, h, d, e, c⟩) hv]
    have HS := Lib.hid (And.intro (And.intro (fun hd : ¬ d < e => fmtL_ff (l := l) (h := h) hd) (fun hd : d < e => fmtL_ft (l := l) (h := h) hd)) (And.intro (fun hd : ¬ d < e => fmtL_tf (l := l) (h := h) hd) (fun hd : d < e => fmtL_tt (l := l) (h := h) hd)))
    have hval := Lib.hid (c_spec_TaskValid l h d e c)
    rw [hv] at hval
    obtain ⟨v1, v2, v3, v4, v5, v6⟩ := tvB_true hv
    have zl : (bs (dec l)).size ≤ 2 := by rw [bs_size]; exact dec_len2 (by omega)
    have zh : (bs (dec h)).size ≤ 2 := by rw [bs_size]; exact dec_len2 (by omega)
    have zd : (bs (dec d)).size ≤ 2 := by rw [bs_size]; exact dec_len2 (by omega)
    have ze : (bs (dec e)).size ≤ 2 := by rw [bs_size]; exact dec_len2 (by omega)
    have HV := Lib.hid (show 0 ≤ l ∧ l ≤ 99 ∧ 0 ≤ h ∧ h ≤ 99 ∧ 0 ≤ d ∧ d ≤ 99 ∧ 0 ≤ e ∧ e ≤ 99 by omega)
    clear hv v1 v2 v3 v4 v5 v6
    generalize hsl : bs (dec l) = sl at *
    generalize hsh : bs (dec h) = sh at *
    generalize hsd : bs (dec d) = sd at *
    generalize hse : bs (dec e) = se at *
    have CL := Lib.hid (show ∀ W, Calls Tryd.prog 33 #[.int .i64 l] W (Ret W (.string sl)) from fun W => by rw [← hsl]; exact c_l11Dec l W HV.out.1 (by have := HV.out; omega))
    have CH := Lib.hid (show ∀ W, Calls Tryd.prog 33 #[.int .i64 h] W (Ret W (.string sh)) from fun W => by rw [← hsh]; exact c_l11Dec h W HV.out.2.2.1 (by have := HV.out; omega))
    have CD := Lib.hid (show ∀ W, Calls Tryd.prog 33 #[.int .i64 d] W (Ret W (.string sd)) from fun W => by rw [← hsd]; exact c_l11Dec d W HV.out.2.2.2.2.1 (by have := HV.out; omega))
    have CE := Lib.hid (show ∀ W, Calls Tryd.prog 33 #[.int .i64 e] W (Ret W (.string se)) from fun W => by rw [← hse]; exact c_l11Dec e W HV.out.2.2.2.2.2.2.1 (by have := HV.out; omega))
    clear hsl hsh hsd hse
    by_cases hde : d < e
    · cases c
      · have HQ := Lib.hid (HS.out.1.2 hde)
        clear HS
        go_enter Tryd.func12, Tryd.ntmps12
        go_wp2_with fail
        refine (hval.out _).mono ?_
        rintro r w1 ⟨rfl, hb1⟩
        have HB1 := Lib.hid (below2 (below_alloc (w := w) (.cells #[.int .i64 l, .int .i64 h, .int .i64 d, .int .i64 e, .bool false] 24)) hb1)
        have HF1 := Lib.hid ((Five.new w 24 (.int .i64 l) (.int .i64 h) (.int .i64 d) (.int .i64 e) (.bool false)).below hb1)
        clear hb1
        obtain ⟨f0, f1, f2, f3, f4, f5⟩ := HF1.out
        go_wp2_with fail
        refine (CL.out _).mono ?_
        rintro r w2 ⟨rfl, hb⟩
        have HB2 := Lib.hid (below2 HB1.out hb)
        have HF2 := Lib.hid (HF1.out.below hb)
        clear hb f0 f1 f2 f3 f4 f5
        obtain ⟨f0, f1, f2, f3, f4, f5⟩ := HF2.out
        go_wp2_with fail
        refine (CE.out _).mono ?_
        rintro r w3 ⟨rfl, hb⟩
        have HB3 := Lib.hid (below2 HB2.out hb)
        have HF3 := Lib.hid (HF2.out.below hb)
        clear hb f0 f1 f2 f3 f4 f5
        obtain ⟨f0, f1, f2, f3, f4, f5⟩ := HF3.out
        go_wp2_with fail
        refine (CD.out _).mono ?_
        rintro r w4 ⟨rfl, hb⟩
        have HB4 := Lib.hid (below2 HB3.out hb)
        have HF4 := Lib.hid (HF3.out.below hb)
        clear hb f0 f1 f2 f3 f4 f5
        obtain ⟨f0, f1, f2, f3, f4, f5⟩ := HF4.out
        go_wp2
        go_ret
        refine ⟨?_, HB4.out⟩
        rw [HQ.out]
        refine ret_string ?_
        first | rfl | (simp only [bs_assoc]; rfl)
      · have HQ := Lib.hid (HS.out.2.2 hde)
        clear HS
        go_enter Tryd.func12, Tryd.ntmps12
        go_wp2_with fail
        refine (hval.out _).mono ?_
        rintro r w1 ⟨rfl, hb1⟩
        have HB1 := Lib.hid (below2 (below_alloc (w := w) (.cells #[.int .i64 l, .int .i64 h, .int .i64 d, .int .i64 e, .bool true] 24)) hb1)
        have HF1 := Lib.hid ((Five.new w 24 (.int .i64 l) (.int .i64 h) (.int .i64 d) (.int .i64 e) (.bool true)).below hb1)
        clear hb1
        obtain ⟨f0, f1, f2, f3, f4, f5⟩ := HF1.out
        go_wp2_with fail
        refine (CL.out _).mono ?_
        rintro r w2 ⟨rfl, hb⟩
        have HB2 := Lib.hid (below2 HB1.out hb)
        have HF2 := Lib.hid (HF1.out.below hb)
        clear hb f0 f1 f2 f3 f4 f5
        obtain ⟨f0, f1, f2, f3, f4, f5⟩ := HF2.out
        go_wp2_with fail
        refine (CH.out _).mono ?_
        rintro r w3 ⟨rfl, hb⟩
        have HB3 := Lib.hid (below2 HB2.out hb)
        have HF3 := Lib.hid (HF2.out.below hb)
        clear hb f0 f1 f2 f3 f4 f5
        obtain ⟨f0, f1, f2, f3, f4, f5⟩ := HF3.out
        go_wp2_with fail
        refine (CE.out _).mono ?_
        rintro r w4 ⟨rfl, hb⟩
        have HB4 := Lib.hid (below2 HB3.out hb)
        have HF4 := Lib.hid (HF3.out.below hb)
        clear hb f0 f1 f2 f3 f4 f5
        obtain ⟨f0, f1, f2, f3, f4, f5⟩ := HF4.out
        go_wp2_with fail
        refine (CD.out _).mono ?_
        rintro r w5 ⟨rfl, hb⟩
        have HB5 := Lib.hid (below2 HB4.out hb)
        have HF5 := Lib.hid (HF4.out.below hb)
        clear hb f0 f1 f2 f3 f4 f5
        obtain ⟨f0, f1, f2, f3, f4, f5⟩ := HF5.out
        go_wp2
        go_ret
        refine ⟨?_, HB5.out⟩
        rw [HQ.out]
        refine ret_string ?_
        first | rfl | (simp only [bs_assoc]; rfl)
    · cases c
      · have HQ := Lib.hid (HS.out.1.1 hde)
        clear HS
        go_enter Tryd.func12, Tryd.ntmps12
        go_wp2_with fail
        refine (hval.out _).mono ?_
        rintro r w1 ⟨rfl, hb1⟩
        have HB1 := Lib.hid (below2 (below_alloc (w := w) (.cells #[.int .i64 l, .int .i64 h, .int .i64 d, .int .i64 e, .bool false] 24)) hb1)
        have HF1 := Lib.hid ((Five.new w 24 (.int .i64 l) (.int .i64 h) (.int .i64 d) (.int .i64 e) (.bool false)).below hb1)
        clear hb1
        obtain ⟨f0, f1, f2, f3, f4, f5⟩ := HF1.out
        go_wp2_with fail
        refine (CL.out _).mono ?_
        rintro r w2 ⟨rfl, hb⟩
        have HB2 := Lib.hid (below2 HB1.out hb)
        have HF2 := Lib.hid (HF1.out.below hb)
        clear hb f0 f1 f2 f3 f4 f5
        obtain ⟨f0, f1, f2, f3, f4, f5⟩ := HF2.out
        go_wp2_with fail
        refine (CE.out _).mono ?_
        rintro r w3 ⟨rfl, hb⟩
        have HB3 := Lib.hid (below2 HB2.out hb)
        have HF3 := Lib.hid (HF2.out.below hb)
        clear hb f0 f1 f2 f3 f4 f5
        obtain ⟨f0, f1, f2, f3, f4, f5⟩ := HF3.out
        go_wp2
        go_ret
        refine ⟨?_, HB3.out⟩
        rw [HQ.out]
        refine ret_string ?_
        first | rfl | (simp only [bs_assoc]; rfl)
      · have HQ := Lib.hid (HS.out.2.1 hde)
        clear HS
        go_enter Tryd.func12, Tryd.ntmps12
        go_wp2_with fail
        refine (hval.out _).mono ?_
        rintro r w1 ⟨rfl, hb1⟩
        have HB1 := Lib.hid (below2 (below_alloc (w := w) (.cells #[.int .i64 l, .int .i64 h, .int .i64 d, .int .i64 e, .bool true] 24)) hb1)
        have HF1 := Lib.hid ((Five.new w 24 (.int .i64 l) (.int .i64 h) (.int .i64 d) (.int .i64 e) (.bool true)).below hb1)
        clear hb1
        obtain ⟨f0, f1, f2, f3, f4, f5⟩ := HF1.out
        go_wp2_with fail
        refine (CL.out _).mono ?_
        rintro r w2 ⟨rfl, hb⟩
        have HB2 := Lib.hid (below2 HB1.out hb)
        have HF2 := Lib.hid (HF1.out.below hb)
        clear hb f0 f1 f2 f3 f4 f5
        obtain ⟨f0, f1, f2, f3, f4, f5⟩ := HF2.out
        go_wp2_with fail
        refine (CH.out _).mono ?_
        rintro r w3 ⟨rfl, hb⟩
        have HB3 := Lib.hid (below2 HB2.out hb)
        have HF3 := Lib.hid (HF2.out.below hb)
        clear hb f0 f1 f2 f3 f4 f5
        obtain ⟨f0, f1, f2, f3, f4, f5⟩ := HF3.out
        go_wp2_with fail
        refine (CE.out _).mono ?_
        rintro r w4 ⟨rfl, hb⟩
        have HB4 := Lib.hid (below2 HB3.out hb)
        have HF4 := Lib.hid (HF3.out.below hb)
        clear hb f0 f1 f2 f3 f4 f5
        obtain ⟨f0, f1, f2, f3, f4, f5⟩ := HF4.out
        go_wp2
        go_ret
        refine ⟨?_, HB4.out⟩
        rw [HQ.out]
        refine ret_string ?_
        first | rfl | (simp only [bs_assoc]; rfl)
end Go.Proofs.YtncpnjnmljobgaaDoor
