/-
  Contracts on texts: the text of a share.
-/
import Derived.Test.YtnfflpaipabbmaaDoorText2
import Derived.Test.YtnfflpaipabbmaaDoorEnv
import Derived.Test.YtnfflpaipabbmaaDoorShare2
import Derived.Test.YtnfflpaipabbmaaDoorSum
namespace Go.Proofs.YtnfflpaipabbmaaDoor
set_option maxRecDepth 100000
open Go.RowKit
/-- What FormatShare answers. -/
def fmtS (a b : Int) : List UInt8 := if shB a b = true then dec a ++ (if b = 1 then [] else 47 :: dec b) else []
theorem fmtS_no {a b : Int} (h : shB a b = false) : fmtS a b = [] := if_neg (by simp [h])
theorem fmtS_one {a b : Int} (h : shB a b = true) (hb : b = 1) : fmtS a b = dec a := by
  unfold fmtS
  rw [if_pos h, if_pos hb, List.append_nil]
theorem fmtS_more {a b : Int} (h : shB a b = true) (hb : ¬ b = 1) : fmtS a b = dec a ++ (47 :: dec b) := by
  unfold fmtS
  rw [if_pos h, if_neg hb]
theorem below_grow {w : World} (k : Nat) (os : Array Obj) : Below w.heap.size w (Go.Sort.grow (w.drewN k) os) :=
  ⟨rfl, rfl, rfl, by show w.heap.size ≤ (w.heap ++ os).size; simp, fun i hi => by show (w.heap ++ os)[i]? = _; rw [Array.getElem?_append_left hi]⟩
theorem c_ItoaB (n : Int) (w : World) (h0 : 0 ≤ n) (h1 : n ≤ 4000000000) (hE : Env w) : Calls Tryd.prog 31 #[.int .i64 n] w (Ret w (.string (bs (dec n)))) := by
  refine (Any.strconv_Itoa L_itoaM n (by omega) (by omega) w hE).mono ?_
  rintro r w' ⟨rfl, k, os, rfl⟩
  refine ⟨?_, below_grow k os⟩
  rw [show Lib.itoa n = dec n from if_neg (by omega)]
  rfl
set_option maxHeartbeats 1000000 in
theorem c_impl_FormatShare (a b : Int) (w : World) (hE : Env w) : Calls Tryd.prog 15 #[.agg #[.int .i64 a, .int .i64 b]] w (Ret w (.string (bs (fmtS a b)))) := by
  have HE := Lib.hid hE
  have hval := Lib.hid (c_impl_ShareValid a b)
  clear hE
  cases hv : shB a b
  · rw [fmtS_no hv, show bs [] = { data := #[] } from rfl]
    rw [hv] at hval
    clear hv
    go_enter Tryd.func15, Tryd.ntmps15
    go_wp2_with fail
    refine (hval.out _).mono ?_
    rintro r w1 ⟨rfl, hb1⟩
    have HB1 := Lib.hid (below2 (below_alloc _) hb1)
    clear hb1
    go_wp2
    go_ret
    exact ⟨rfl, HB1.out⟩
  · rw [hv] at hval
    have HV := Lib.hid (shB_msB hv)
    have za : (bs (dec a)).size ≤ 10 := by rw [bs_size]; exact dec_len (by have := HV.out; omega)
    have zb : (bs (dec b)).size ≤ 10 := by rw [bs_size]; exact dec_len (by have := HV.out; omega)
    have CA := Lib.hid (fun W (h : Env W) => c_ItoaB a W (by have := HV.out; omega) (by have := HV.out; omega) h)
    have CB := Lib.hid (fun W (h : Env W) => c_ItoaB b W (by have := HV.out; omega) (by have := HV.out; omega) h)
    by_cases hb1 : b = 1
    · rw [fmtS_one hv hb1]
      subst hb1
      clear hv zb CB
      generalize bs (dec a) = sa at *
      go_enter Tryd.func15, Tryd.ntmps15
      go_wp2_with fail
      refine (hval.out _).mono ?_
      rintro r w1 ⟨rfl, hb1⟩
      obtain ⟨y0, y1, y2⟩ := box2 hb1
      have HB1 := Lib.hid (below2 (below_alloc (w := w) (.cells #[.int .i64 a, .int .i64 1] 31)) hb1)
      clear hb1
      go_wp2_with fail
      refine (CA.out _ (HE.out.below HB1.out)).mono ?_
      rintro r w2 ⟨rfl, hb2⟩
      have z1 := kept y1 hb2 y2
      have HB2 := Lib.hid (below2 HB1.out hb2)
      clear hb2 y0 y1 y2
      go_wp2
      go_ret
      exact ⟨rfl, HB2.out⟩
    · rw [fmtS_more hv hb1, show bs (dec a ++ 47 :: dec b) = bs (dec a) ++ ({ data := #[47] } ++ bs (dec b)) by rw [show ({ data := #[47] } : ByteArray) = bs [47] from rfl, bs_append, bs_append]; rfl]
      have hx : (b != 1) = true := by simpa using hb1
      have hx' : (b == 1) = false := by simpa using hb1
      clear hv hb1
      generalize bs (dec a) = sa at *
      generalize bs (dec b) = sb at *
      go_enter Tryd.func15, Tryd.ntmps15
      go_wp2_with fail
      refine (hval.out _).mono ?_
      rintro r w1 ⟨rfl, hb1⟩
      obtain ⟨y0, y1, y2⟩ := box2 hb1
      have HB1 := Lib.hid (below2 (below_alloc (w := w) (.cells #[.int .i64 a, .int .i64 b] 31)) hb1)
      clear hb1
      go_wp2_with fail
      refine (CA.out _ (HE.out.below HB1.out)).mono ?_
      rintro r w2 ⟨rfl, hb2⟩
      have z1 := kept y1 hb2 y2
      have z2 := Nat.lt_of_lt_of_le y2 hb2.size
      have HB2 := Lib.hid (below2 HB1.out hb2)
      clear hb2 y0 y1 y2
      go_wp2_with fail
      refine (CB.out _ (HE.out.below HB2.out)).mono ?_
      rintro r w3 ⟨rfl, hb3⟩
      have HB3 := Lib.hid (below2 HB2.out hb3)
      clear hb3 z1 z2
      go_wp2
      go_ret
      refine ⟨ret_string ?_, HB3.out⟩
      first | rfl | (simp only [bs_assoc]; done)
set_option maxHeartbeats 1000000 in
theorem c_spec_FormatShare (a b : Int) (w : World) : Calls Tryd.prog 13 #[.agg #[.int .i64 a, .int .i64 b]] w (Ret w (.string (bs (fmtS a b)))) := by
  have hval := Lib.hid (c_spec_ShareValid a b)
  cases hv : shB a b
  · rw [fmtS_no hv, show bs [] = { data := #[] } from rfl]
    rw [hv] at hval
    clear hv
    go_enter Tryd.func13, Tryd.ntmps13
    go_wp2_with fail
    refine (hval.out _).mono ?_
    rintro r w1 ⟨rfl, hb1⟩
    have HB1 := Lib.hid (below2 (below_alloc _) hb1)
    clear hb1
    go_wp2
    go_ret
    exact ⟨rfl, HB1.out⟩
  · rw [hv] at hval
    have HV := Lib.hid (shB_msB hv)
    have za : (bs (dec a)).size ≤ 10 := by rw [bs_size]; exact dec_len (by have := HV.out; omega)
    have zb : (bs (dec b)).size ≤ 10 := by rw [bs_size]; exact dec_len (by have := HV.out; omega)
    have CA := Lib.hid (fun W => c_l11Dec a W (by have := HV.out; omega) (by have := HV.out; omega))
    have CB := Lib.hid (fun W => c_l11Dec b W (by have := HV.out; omega) (by have := HV.out; omega))
    by_cases hb1 : b = 1
    · rw [fmtS_one hv hb1]
      subst hb1
      clear hv zb CB
      generalize bs (dec a) = sa at *
      go_enter Tryd.func13, Tryd.ntmps13
      go_wp2_with fail
      refine (hval.out _).mono ?_
      rintro r w1 ⟨rfl, hb1⟩
      obtain ⟨y0, y1, y2⟩ := box2 hb1
      have HB1 := Lib.hid (below2 (below_alloc (w := w) (.cells #[.int .i64 a, .int .i64 1] 31)) hb1)
      clear hb1
      go_wp2_with fail
      refine (CA.out _).mono ?_
      rintro r w2 ⟨rfl, hb2⟩
      have HB2 := Lib.hid (below2 HB1.out hb2)
      clear hb2 y0 y1 y2
      go_wp2
      go_ret
      exact ⟨rfl, HB2.out⟩
    · rw [fmtS_more hv hb1, show bs (dec a ++ 47 :: dec b) = bs (dec a) ++ { data := #[47] } ++ bs (dec b) by rw [show ({ data := #[47] } : ByteArray) = bs [47] from rfl, bs_append, bs_append]; simp]
      have hx : (b == 1) = false := by simpa using hb1
      clear hv hb1
      have CC := Lib.hid (show ∀ (W : World) (n : Int), (n = a ∨ n = b) → Calls Tryd.prog 29 #[.int .i64 n] W (Ret W (.string (bs (dec n)))) from fun W n h => by
        rcases h with rfl | rfl
        · exact CA.out W
        · exact CB.out W)
      clear CA CB
      go_enter Tryd.func13, Tryd.ntmps13
      go_wp2_with fail
      refine (hval.out _).mono ?_
      rintro r w1 ⟨rfl, hb1⟩
      obtain ⟨y0, y1, y2⟩ := box2 hb1
      have HB1 := Lib.hid (below2 (below_alloc (w := w) (.cells #[.int .i64 a, .int .i64 b] 31)) hb1)
      clear hb1
      generalize w.heap.size = G at y0 y1 y2 ⊢
      go_wp2_with fail
      have hcum : Below w.heap.size w w1.drew := below_drewN HB1.out 1
      have q1 : (9223372036854775807 < (bs (dec a)).size + 1) = False := eq_false (by omega)
      have q2 : (9223372036854775807 ≤ (bs (dec a)).size) = False := eq_false (by omega)
      have q3 : (9223372036854775807 < (bs (dec a)).size + 1 + (bs (dec b)).size) = False := eq_false (by omega)
      go_region_held3 (fun w' => w'.cell? ⟨G, 0, none⟩ = some (.int .i64 a) ∧ w'.cell? ⟨G, 1, none⟩ = some (.int .i64 b)) (go_keep) ((go_at_call 29; go_must (refine Calls.mono (keep2 (b1 := G) (o1 := 0) (u1 := .int .i64 a) (b2 := G) (o2 := 1) (u2 := .int .i64 b) (CC.out _ _ (by first | exact .inl rfl | exact .inr rfl)) ?_ ?_) ?_; iterate 2 (first | (with_reducible assumption) | exact y0 | exact y1 | go_keep)); rintro r wP ⟨⟨rfl, hP⟩, y0, y1⟩; have hcum := below2 hcum hP))
      all_goals
        go_wp2
        go_ret
        refine ⟨ret_string ?_, hcum⟩
        first | rfl | (simp only [bs_assoc]; done)
end Go.Proofs.YtnfflpaipabbmaaDoor
