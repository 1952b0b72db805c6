/-
  The reference's parser of tasks, whole.
-/
import Derived.Test.YtncpnjnmljobgaaDoorPTask
namespace Go.Proofs.YtncpnjnmljobgaaDoor
set_option maxRecDepth 100000
open Go.RowKit
theorem bsL (l : List UInt8) : (bs l).toList = l := ByteArray.toList_mk l
theorem bsD (l : List UInt8) : (bs l).data.toList = l := (ByteArray.toList_eq _).symm.trans (bsL l)
theorem task_num {u : Tk} {l : List UInt8} (hu : u.ok = true) (hl : fmtT u = l) : (cutL 32 l).length = 3 ∨ (cutL 32 l).length = 5 := by
  rw [← hl, cut_task hu]
  by_cases h : u.due < u.every
  · rw [if_pos h]; exact .inr rfl
  · rw [if_neg h]; exact .inl rfl
theorem task_three {u : Tk} {l p0 p2 : List UInt8} (hu : u.ok = true) (hl : fmtT u = l) (h3 : (cutL 32 l).length = 3) (h0 : (cutL 32 l)[0]? = some p0) (h2 : (cutL 32 l)[2]? = some p2) : p0 = needL u.low u.high u.crit ∧ p2 = dec u.every ∧ u.due = u.every := by
  rw [← hl, cut_task hu] at h3 h0 h2
  by_cases h : u.due < u.every
  · rw [if_pos h] at h3; simp at h3
  · rw [if_neg h] at h0 h2
    simp at h0 h2
    obtain ⟨_, _, _, h4, _, _⟩ := tvB_true hu
    exact ⟨h0.symm, h2.symm, by omega⟩
theorem task_five {u : Tk} {l p0 p2 p4 : List UInt8} (hu : u.ok = true) (hl : fmtT u = l) (h3 : (cutL 32 l).length = 5) (h0 : (cutL 32 l)[0]? = some p0) (h2 : (cutL 32 l)[2]? = some p2) (h4 : (cutL 32 l)[4]? = some p4) : p0 = needL u.low u.high u.crit ∧ p2 = dec u.every ∧ p4 = dec u.due := by
  rw [← hl, cut_task hu] at h3 h0 h2 h4
  by_cases h : u.due < u.every
  · rw [if_pos h] at h0 h2 h4
    simp at h0 h2 h4
    exact ⟨h0.symm, h2.symm, h4.symm⟩
  · rw [if_neg h] at h3; simp at h3
theorem isP_no {l : List UInt8} (h : ∀ u : Tk, u.ok = true → fmtT u ≠ l) : IsP l Tk.zero false := .inr ⟨rfl, rfl, h⟩
theorem isP_yes {l : List UInt8} {t : Tk} (hne : 2 ≤ (cutL 32 l).length) (h : fmtT t = l) : IsP l t true := by
  refine .inl ⟨rfl, ?_, h⟩
  cases hv : t.ok
  · rw [fmtT_no hv] at h
    subst h
    exact absurd hne (by decide)
  · rfl
theorem piece_small {s : ByteArray} {c : UInt8} {p : List UInt8} {k : Nat} (hs : s.size ≤ 1048576) (h : (cutL c s.data.toList)[k]? = some p) : (bs p).size ≤ 1048576 := by
  rw [bs_size]
  have h1 := cutL_sub (List.mem_of_getElem? h)
  have h2 : s.data.toList.length = s.size := by rw [Array.length_toList]; rfl
  omega
theorem Free5.below {w w' : World} {B : Nat} {u0 u1 u2 u3 u4 : Value} (h : Free5 w B) (h5 : Five w B u0 u1 u2 u3 u4) (hb : Below w.heap.size w w') : Free5 w' B :=
  ⟨((bcell hb).2 _ _ h5.2.2.2.2.2).trans h.1, ((bcell hb).2 _ _ h5.2.2.2.2.2).trans h.2.1, ((bcell hb).2 _ _ h5.2.2.2.2.2).trans h.2.2.1, ((bcell hb).2 _ _ h5.2.2.2.2.2).trans h.2.2.2.1, ((bcell hb).2 _ _ h5.2.2.2.2.2).trans h.2.2.2.2⟩
/-- The parser's answer no. -/
theorem parsed_no {w w4 : World} {G : Nat} {l : List UInt8} (hb : Below w.heap.size w w4) (hle : w.heap.size ≤ G) (h : ∀ u : Tk, u.ok = true → fmtT u ≠ l) :
    Parsed w l (.returned (.tuple #[.agg #[.int .i64 0, .int .i64 0, .int .i64 0, .int .i64 0, .bool false], .bool false])) (((((w4.setCell ⟨G, 0, none⟩ (.int .i64 0)).setCell ⟨G, 1, none⟩ (.int .i64 0)).setCell ⟨G, 2, none⟩ (.int .i64 0)).setCell ⟨G, 3, none⟩ (.int .i64 0)).setCell ⟨G, 4, none⟩ (.bool false)) :=
  ⟨Tk.zero, false, rfl, below_at (below_at (below_at (below_at (below_at hb hle) hle) hle) hle) hle, isP_no h⟩
theorem parsed_yes {w w4 : World} {G : Nat} {l : List UInt8} {a b d e : Int} {c : Bool} (hb : Below w.heap.size w w4) (hle : w.heap.size ≤ G) (h : IsP l ⟨a, b, d, e, c⟩ true) :
    Parsed w l (.returned (.tuple #[.agg #[.int .i64 a, .int .i64 b, .int .i64 d, .int .i64 e, .bool c], .bool true])) (((((w4.setCell ⟨G, 0, none⟩ (.int .i64 a)).setCell ⟨G, 1, none⟩ (.int .i64 b)).setCell ⟨G, 2, none⟩ (.int .i64 d)).setCell ⟨G, 3, none⟩ (.int .i64 e)).setCell ⟨G, 4, none⟩ (.bool c)) :=
  ⟨⟨a, b, d, e, c⟩, true, rfl, below_at (below_at (below_at (below_at (below_at hb hle) hle) hle) hle) hle, h⟩
set_option maxHeartbeats 4000000 in
theorem c_spec_ParseTask_three (s : ByteArray) (w : World) (hs : s.size ≤ 1048576) (h3 : (cutL 32 s.data.toList).length = 3) : Calls Tryd.prog 15 #[.string s] w (Parsed w s.data.toList) := by
  have HZ := Lib.hid hs
  obtain ⟨p0, hp0⟩ : ∃ p, (cutL 32 s.data.toList)[0]? = some p := ⟨_, List.getElem?_eq_getElem (by omega)⟩
  obtain ⟨p2, hp2⟩ : ∃ p, (cutL 32 s.data.toList)[2]? = some p := ⟨_, List.getElem?_eq_getElem (by omega)⟩
  have hz0 := piece_small hs hp0
  have hz2 := piece_small hs hp2
  have H3 := Lib.hid h3
  have HP := Lib.hid (And.intro hp0 hp2)
  have HZP := Lib.hid (And.intro hz0 hz2)
  clear hp0 hp2 hz0 hz2 h3
  go_enter Tryd.func15, Tryd.ntmps15
  go_wp2_with fail
  refine (c_l11Cut s 32 32 _ rfl hs).mono ?_
  rintro r w1 ⟨A1, n1, c1, rfl, hb1, ho1, hn1⟩
  have hlen : n1 = 3 := by have := ho1.1; rw [List.length_map, H3.out] at this; exact this.symm
  subst hlen
  rcases ho1.form' with ⟨_, h0, _⟩ | ⟨g, rfl, hg, hgB, hnc⟩
  · omega
  have y0 := ho1.at_ (k := 0) (x := bs p0) (by rw [List.getElem?_map, HP.out.1]; rfl)
  have HO1 := Lib.hid ho1
  have HB1 := Lib.hid (below2 (below_alloc (w := w) _) hb1)
  have HC1 := Lib.hid hb1
  clear hb1 ho1 hs hnc hgB hn1
  go_wp2_with fail
  refine (c_l1Need (bs p0) _ HZP.out.1).mono ?_
  rintro r w2 ⟨a, b, c, ok, rfl, hb2, hneed⟩
  have HN := Lib.hid hneed
  have HO2 := Lib.hid (HO1.out.below hb2)
  have HC2 := Lib.hid (below2 HC1.out hb2)
  have HB2 := Lib.hid (below2 HB1.out hb2)
  have hg2 : g < w2.heap.size := Nat.lt_of_lt_of_le hg hb2.size
  clear y0 hneed hb2 hg HO1
  have y2 := HO2.out.at_ (k := 2) (x := bs p2) (by rw [List.getElem?_map, HP.out.2]; rfl)
  go_wp2_with fail
  refine (c_l11Num (bs p2) _ (by have := HZP.out.2; omega)).mono ?_
  rintro r w3 ⟨v, fine, rfl, hb3, hnum⟩
  have HM := Lib.hid hnum
  obtain ⟨⟨t0, t1, t2, t3, t4, t5⟩, z0, z1, z2, z3, z4⟩ := made5 hb3
  have hbw3 := below2 HC2.out (below2 (below_alloc _) hb3)
  obtain ⟨⟨k0, k1, k2, k3, k4, k5⟩, q0, q1, q2, q3, q4⟩ := made5 hbw3
  have HBW3 := Lib.hid (below2 HB2.out (below2 (below_alloc _) hb3))
  have hlt : w.heap.size < w2.heap.size := lt1 HC2.out
  have hne1 : ¬ w.heap.size = w2.heap.size := by omega
  have hne2 : ¬ w2.heap.size = w.heap.size := by omega
  clear hnum hb3 y2 hg2 hbw3
  have HLE := Lib.hid (Nat.le_of_lt hlt)
  clear hlt
  generalize hG : w.heap.size = G at k0 k1 k2 k3 k4 k5 q0 q1 q2 q3 q4 hne1 hne2 ⊢
  have HLG := Lib.hid (Nat.le_of_eq hG)
  clear hG
  generalize w2.heap.size = B2 at t0 t1 t2 t3 t4 t5 z0 z1 z2 z3 z4 hne1 hne2 HLE ⊢
  have HT5 := Lib.hid (show Five w3 B2 (.int .i64 a) (.int .i64 b) (.int .i64 0) (.int .i64 0) (.bool c) from ⟨t0, t1, t2, t3, t4, t5⟩)
  have HG5 := Lib.hid (show Five w3 G (.int .i64 0) (.int .i64 0) (.int .i64 0) (.int .i64 0) (.bool false) from ⟨k0, k1, k2, k3, k4, k5⟩)
  have HGf := Lib.hid (show Free5 w3 G from ⟨q0, q1, q2, q3, q4⟩)
  have HNE := Lib.hid hne2
  go_upto_region 12 with (fail)
  have HT6 := Lib.hid ((HT5.out.s3 (.int .i64 v)).s2 (.int .i64 v))
  have HG6 := Lib.hid ((HG5.out.other (o := 3) (v := .int .i64 v) HNE.out).other (o := 2) (v := .int .i64 v) HNE.out)
  have HGf6 := Lib.hid ((HGf.out.set (a := ⟨B2, 3, none⟩) (v := .int .i64 v)).set (a := ⟨B2, 2, none⟩) (v := .int .i64 v))
  have HB6 := Lib.hid (below_at (below_at HBW3.out HLE.out (o := 3) (u := .int .i64 v)) HLE.out (o := 2) (u := .int .i64 v))
  clear t0 t1 t2 t3 t4 t5 z0 z1 z2 z3 z4 k0 k1 k2 k3 k4 k5 q0 q1 q2 q3 q4 HT5 HG5 HGf HBW3
  generalize (w3.setCell ⟨B2, 3, none⟩ (.int .i64 v)).setCell ⟨B2, 2, none⟩ (.int .i64 v) = w4 at *
  obtain ⟨t0, t1, t2, t3, t4, t5⟩ := HT6.out
  obtain ⟨k0, k1, k2, k3, k4, k5⟩ := HG6.out
  obtain ⟨q0, q1, q2, q3, q4⟩ := HGf6.out
  have HU := Lib.hid (show ∀ u : Tk, u.ok = true → fmtT u = s.data.toList → ok = true ∧ fine = true ∧ u = ⟨a, b, v, v, c⟩ from fun u hu hl => by
    obtain ⟨e1, e2, e3⟩ := task_three hu hl H3.out HP.out.1 HP.out.2
    obtain ⟨_, _, _, ⟨m0, m1⟩⟩ := ok_bds hu
    obtain ⟨f1, f2, f3, f4⟩ := HN.out u hu (by rw [← e1]; exact bsD p0)
    obtain ⟨g1, g2⟩ := HM.out u.every m0 m1 (by rw [e2])
    exact ⟨f4, g2, Tk.ext_ f1.symm f2.symm (by rw [e3, g1]) g1.symm f3.symm⟩)
  have HS0 := Lib.hid (set5 HG6.out (.int .i64 0) (.int .i64 0) (.int .i64 0) (.int .i64 0) (.bool false))
  clear HO2 HN HM HC1 HC2 HB1 HB2
  rcases (show ok = false ∨ (ok = true ∧ fine = false) ∨ (ok = true ∧ fine = true) by cases ok <;> cases fine <;> simp) with rfl | ⟨rfl, rfl⟩ | ⟨rfl, rfl⟩
  · go_wp2
    obtain ⟨r0, r1, r2, r3, r4, _⟩ := HS0.out
    exact bodyPost_ret (v := .tuple #[.agg #[.int .i64 0, .int .i64 0, .int .i64 0, .int .i64 0, .bool false], .bool false]) (by simp [results, Tryd.results15, go_sem, r0, r1, r2, r3, r4]) rfl (parsed_no HB6.out HLG.out fun u hu hl => by obtain ⟨h, _⟩ := HU.out u hu hl; cases h)
  · go_wp2
    obtain ⟨r0, r1, r2, r3, r4, _⟩ := HS0.out
    exact bodyPost_ret (v := .tuple #[.agg #[.int .i64 0, .int .i64 0, .int .i64 0, .int .i64 0, .bool false], .bool false]) (by simp [results, Tryd.results15, go_sem, r0, r1, r2, r3, r4]) rfl (parsed_no HB6.out HLG.out fun u hu hl => by obtain ⟨_, h, _⟩ := HU.out u hu hl; cases h)
  · go_wp2_with fail
    refine (c_spec_FormatTask a b v v c _).mono ?_
    rintro r w5 ⟨rfl, hb5⟩
    have HT7 := Lib.hid (HT6.out.below hb5)
    have HG7 := Lib.hid (HG6.out.below hb5)
    have HGf7 := Lib.hid (show Free5 w5 G from ⟨((bcell hb5).2 _ _ k5).trans q0, ((bcell hb5).2 _ _ k5).trans q1, ((bcell hb5).2 _ _ k5).trans q2, ((bcell hb5).2 _ _ k5).trans q3, ((bcell hb5).2 _ _ k5).trans q4⟩)
    have HB7 := Lib.hid (below2 HB6.out hb5)
    clear hb5 t0 t1 t2 t3 t4 t5 k0 k1 k2 k3 k4 k5 q0 q1 q2 q3 q4
    obtain ⟨t0, t1, t2, t3, t4, t5⟩ := HT7.out
    obtain ⟨k0, k1, k2, k3, k4, k5⟩ := HG7.out
    obtain ⟨q0, q1, q2, q3, q4⟩ := HGf7.out
    by_cases heq : fmtT ⟨a, b, v, v, c⟩ = s.data.toList
    · have HEQ := Lib.hid heq
      have ht1 : ((bs (fmtT ⟨a, b, v, v, c⟩)).toList == s.toList) = true := by rw [beq_iff_eq, bsL, ByteArray.toList_eq]; exact heq
      clear heq
      go_wp2
      have HS7 := set5 HG7.out (.int .i64 a) (.int .i64 b) (.int .i64 v) (.int .i64 v) (.bool c)
      obtain ⟨r0, r1, r2, r3, r4, _⟩ := HS7
      exact bodyPost_ret (v := .tuple #[.agg #[.int .i64 a, .int .i64 b, .int .i64 v, .int .i64 v, .bool c], .bool true]) (by simp [results, Tryd.results15, go_sem, r0, r1, r2, r3, r4]) rfl (parsed_yes HB7.out HLG.out (isP_yes (by rw [H3.out]; decide) HEQ.out))
    · have HEQ := Lib.hid heq
      have ht1 : ((bs (fmtT ⟨a, b, v, v, c⟩)).toList == s.toList) = false := by rw [beq_eq_false_iff_ne, bsL, ByteArray.toList_eq]; exact heq
      clear heq
      go_wp2
      have HS7 := set5 HG7.out (.int .i64 0) (.int .i64 0) (.int .i64 0) (.int .i64 0) (.bool false)
      obtain ⟨r0, r1, r2, r3, r4, _⟩ := HS7
      exact bodyPost_ret (v := .tuple #[.agg #[.int .i64 0, .int .i64 0, .int .i64 0, .int .i64 0, .bool false], .bool false]) (by simp [results, Tryd.results15, go_sem, r0, r1, r2, r3, r4]) rfl (parsed_no HB7.out HLG.out fun u hu hl => by
        obtain ⟨_, _, h⟩ := HU.out u hu hl
        subst h
        exact HEQ.out hl)
set_option maxHeartbeats 4000000 in
theorem c_spec_ParseTask_five (s : ByteArray) (w : World) (hs : s.size ≤ 1048576) (h3 : (cutL 32 s.data.toList).length = 5) : Calls Tryd.prog 15 #[.string s] w (Parsed w s.data.toList) := by
  have HZ := Lib.hid hs
  obtain ⟨p0, hp0⟩ : ∃ p, (cutL 32 s.data.toList)[0]? = some p := ⟨_, List.getElem?_eq_getElem (by omega)⟩
  obtain ⟨p4, hp4⟩ : ∃ p, (cutL 32 s.data.toList)[4]? = some p := ⟨_, List.getElem?_eq_getElem (by omega)⟩
  obtain ⟨p2, hp2⟩ : ∃ p, (cutL 32 s.data.toList)[2]? = some p := ⟨_, List.getElem?_eq_getElem (by omega)⟩
  have hz0 := piece_small hs hp0
  have hz2 := piece_small hs hp2
  have hz4 := piece_small hs hp4
  have HP4 := Lib.hid (And.intro hp4 hz4)
  clear hp4 hz4
  have H3 := Lib.hid h3
  have HP := Lib.hid (And.intro hp0 hp2)
  have HZP := Lib.hid (And.intro hz0 hz2)
  clear hp0 hp2 hz0 hz2 h3
  go_enter Tryd.func15, Tryd.ntmps15
  go_wp2_with fail
  refine (c_l11Cut s 32 32 _ rfl hs).mono ?_
  rintro r w1 ⟨A1, n1, c1, rfl, hb1, ho1, hn1⟩
  have hlen : n1 = 5 := by have := ho1.1; rw [List.length_map, H3.out] at this; exact this.symm
  subst hlen
  rcases ho1.form' with ⟨_, h0, _⟩ | ⟨g, rfl, hg, hgB, hnc⟩
  · omega
  have y0 := ho1.at_ (k := 0) (x := bs p0) (by rw [List.getElem?_map, HP.out.1]; rfl)
  have HO1 := Lib.hid ho1
  have HB1 := Lib.hid (below2 (below_alloc (w := w) _) hb1)
  have HC1 := Lib.hid hb1
  clear hb1 ho1 hs hnc hgB hn1
  go_wp2_with fail
  refine (c_l1Need (bs p0) _ HZP.out.1).mono ?_
  rintro r w2 ⟨a, b, c, ok, rfl, hb2, hneed⟩
  have HN := Lib.hid hneed
  have HO2 := Lib.hid (HO1.out.below hb2)
  have HC2 := Lib.hid (below2 HC1.out hb2)
  have HB2 := Lib.hid (below2 HB1.out hb2)
  have hg2 : g < w2.heap.size := Nat.lt_of_lt_of_le hg hb2.size
  clear y0 hneed hb2 hg HO1
  have y2 := HO2.out.at_ (k := 2) (x := bs p2) (by rw [List.getElem?_map, HP.out.2]; rfl)
  go_wp2_with fail
  refine (c_l11Num (bs p2) _ (by have := HZP.out.2; omega)).mono ?_
  rintro r w3 ⟨v, fine, rfl, hb3, hnum⟩
  have HM := Lib.hid hnum
  obtain ⟨⟨t0, t1, t2, t3, t4, t5⟩, z0, z1, z2, z3, z4⟩ := made5 hb3
  have hbw3 := below2 HC2.out (below2 (below_alloc _) hb3)
  obtain ⟨⟨k0, k1, k2, k3, k4, k5⟩, q0, q1, q2, q3, q4⟩ := made5 hbw3
  have HBW3 := Lib.hid (below2 HB2.out (below2 (below_alloc _) hb3))
  have hlt : w.heap.size < w2.heap.size := lt1 HC2.out
  have hne1 : ¬ w.heap.size = w2.heap.size := by omega
  have hne2 : ¬ w2.heap.size = w.heap.size := by omega
  have y4 := (HO2.out.below (below2 (below_alloc _) hb3)).at_ (k := 4) (x := bs p4) (by rw [List.getElem?_map, HP4.out.1]; rfl)
  clear hnum hb3 y2 hbw3
  have HLE := Lib.hid (Nat.le_of_lt hlt)
  have hgne : ¬ w2.heap.size = g := by omega
  clear hlt hg2
  generalize hG : w.heap.size = G at k0 k1 k2 k3 k4 k5 q0 q1 q2 q3 q4 hne1 hne2 ⊢
  have HLG := Lib.hid (Nat.le_of_eq hG)
  clear hG
  generalize w2.heap.size = B2 at t0 t1 t2 t3 t4 t5 z0 z1 z2 z3 z4 hne1 hne2 HLE hgne ⊢
  have HT5 := Lib.hid (show Five w3 B2 (.int .i64 a) (.int .i64 b) (.int .i64 0) (.int .i64 0) (.bool c) from ⟨t0, t1, t2, t3, t4, t5⟩)
  have HTf := Lib.hid (show Free5 w3 B2 from ⟨z0, z1, z2, z3, z4⟩)
  have HG5 := Lib.hid (show Five w3 G (.int .i64 0) (.int .i64 0) (.int .i64 0) (.int .i64 0) (.bool false) from ⟨k0, k1, k2, k3, k4, k5⟩)
  have HGf := Lib.hid (show Free5 w3 G from ⟨q0, q1, q2, q3, q4⟩)
  have HNE := Lib.hid hne2
  have HY := Lib.hid (show ((w3.setCell ⟨B2, 3, none⟩ (.int .i64 v)).setCell ⟨B2, 2, none⟩ (.int .i64 v)).cell? ⟨g, 4, none⟩ = some (.string (bs p4)) from
    (World.cell?_setCell_other _ _ _ _ (fun e => by injection e with e _; exact hgne e)).trans ((World.cell?_setCell_other _ _ _ _ (fun e => by injection e with e _; exact hgne e)).trans y4))
  go_upto_region 9 with (fail)
  have HT6 := Lib.hid ((HT5.out.s3 (.int .i64 v)).s2 (.int .i64 v))
  have HTf6 := Lib.hid ((HTf.out.set (a := ⟨B2, 3, none⟩) (v := .int .i64 v)).set (a := ⟨B2, 2, none⟩) (v := .int .i64 v))
  have HG6 := Lib.hid ((HG5.out.other (o := 3) (v := .int .i64 v) HNE.out).other (o := 2) (v := .int .i64 v) HNE.out)
  have HGf6 := Lib.hid ((HGf.out.set (a := ⟨B2, 3, none⟩) (v := .int .i64 v)).set (a := ⟨B2, 2, none⟩) (v := .int .i64 v))
  have HB6 := Lib.hid (below_at (below_at HBW3.out HLE.out (o := 3) (u := .int .i64 v)) HLE.out (o := 2) (u := .int .i64 v))
  clear t0 t1 t2 t3 t4 t5 z0 z1 z2 z3 z4 k0 k1 k2 k3 k4 k5 q0 q1 q2 q3 q4 HT5 HTf HG5 HGf HBW3 y4
  generalize (w3.setCell ⟨B2, 3, none⟩ (.int .i64 v)).setCell ⟨B2, 2, none⟩ (.int .i64 v) = w4 at *
  have y4 := HY.out
  go_wp2_with fail
  refine (c_l11Num (bs p4) _ (by have := HP4.out.2; omega)).mono ?_
  rintro r w7 ⟨d, good, rfl, hb7, hnum⟩
  have HM4 := Lib.hid hnum
  have HT5 := Lib.hid (HT6.out.below hb7)
  have HG5 := Lib.hid (HG6.out.below hb7)
  have HTf := Lib.hid (HTf6.out.below HT6.out hb7)
  have HGf := Lib.hid (HGf6.out.below HG6.out hb7)
  have HBW3 := Lib.hid (below2 HB6.out hb7)
  clear hnum hb7 y4 HT6 HG6 HGf6 HTf6 HB6 HY
  obtain ⟨t0, t1, t2, t3, t4, t5⟩ := HT5.out
  obtain ⟨z0, z1, z2, z3, z4⟩ := HTf.out
  obtain ⟨k0, k1, k2, k3, k4, k5⟩ := HG5.out
  obtain ⟨q0, q1, q2, q3, q4⟩ := HGf.out
  go_upto_region 11 with (fail)
  have HT6 := Lib.hid (HT5.out.s2 (.int .i64 d))
  have HG6 := Lib.hid (HG5.out.other (o := 2) (v := .int .i64 d) HNE.out)
  have HGf6 := Lib.hid (HGf.out.set (a := ⟨B2, 2, none⟩) (v := .int .i64 d))
  have HB6 := Lib.hid (below_at HBW3.out HLE.out (o := 2) (u := .int .i64 d))
  clear t0 t1 t2 t3 t4 t5 z0 z1 z2 z3 z4 k0 k1 k2 k3 k4 k5 q0 q1 q2 q3 q4 HT5 HTf HG5 HGf HBW3
  generalize w7.setCell ⟨B2, 2, none⟩ (.int .i64 d) = w4 at *
  obtain ⟨t0, t1, t2, t3, t4, t5⟩ := HT6.out
  obtain ⟨k0, k1, k2, k3, k4, k5⟩ := HG6.out
  obtain ⟨q0, q1, q2, q3, q4⟩ := HGf6.out
  have HU := Lib.hid (show ∀ u : Tk, u.ok = true → fmtT u = s.data.toList → ok = true ∧ fine = true ∧ good = true ∧ u = ⟨a, b, d, v, c⟩ from fun u hu hl => by
    obtain ⟨e1, e2, e3⟩ := task_five hu hl H3.out HP.out.1 HP.out.2 HP4.out.1
    obtain ⟨_, _, ⟨l0, l1⟩, ⟨m0, m1⟩⟩ := ok_bds hu
    obtain ⟨f1, f2, f3, f4⟩ := HN.out u hu (by rw [← e1]; exact bsD p0)
    obtain ⟨g1, g2⟩ := HM.out u.every m0 m1 (by rw [e2])
    obtain ⟨j1, j2⟩ := HM4.out u.due l0 l1 (by rw [e3])
    exact ⟨f4, g2, j2, Tk.ext_ f1.symm f2.symm j1.symm g1.symm f3.symm⟩)
  have HS0 := Lib.hid (set5 HG6.out (.int .i64 0) (.int .i64 0) (.int .i64 0) (.int .i64 0) (.bool false))
  clear HO2 HN HM HM4 HC1 HC2 HB1 HB2
  rcases (show (ok = false ∧ fine = false) ∨ (ok = false ∧ fine = true) ∨ (ok = true ∧ fine = false) ∨ (ok = true ∧ fine = true ∧ good = false) ∨ (ok = true ∧ fine = true ∧ good = true) by cases ok <;> cases fine <;> cases good <;> simp) with ⟨rfl, rfl⟩ | ⟨rfl, rfl⟩ | ⟨rfl, rfl⟩ | ⟨rfl, rfl, rfl⟩ | ⟨rfl, rfl, rfl⟩
  · go_wp2
    obtain ⟨r0, r1, r2, r3, r4, _⟩ := HS0.out
    exact bodyPost_ret (v := .tuple #[.agg #[.int .i64 0, .int .i64 0, .int .i64 0, .int .i64 0, .bool false], .bool false]) (by simp [results, Tryd.results15, go_sem, r0, r1, r2, r3, r4]) rfl (parsed_no HB6.out HLG.out fun u hu hl => by obtain ⟨h, _⟩ := HU.out u hu hl; cases h)
  · go_wp2
    obtain ⟨r0, r1, r2, r3, r4, _⟩ := HS0.out
    exact bodyPost_ret (v := .tuple #[.agg #[.int .i64 0, .int .i64 0, .int .i64 0, .int .i64 0, .bool false], .bool false]) (by simp [results, Tryd.results15, go_sem, r0, r1, r2, r3, r4]) rfl (parsed_no HB6.out HLG.out fun u hu hl => by obtain ⟨h, _⟩ := HU.out u hu hl; cases h)
  · go_wp2
    obtain ⟨r0, r1, r2, r3, r4, _⟩ := HS0.out
    exact bodyPost_ret (v := .tuple #[.agg #[.int .i64 0, .int .i64 0, .int .i64 0, .int .i64 0, .bool false], .bool false]) (by simp [results, Tryd.results15, go_sem, r0, r1, r2, r3, r4]) rfl (parsed_no HB6.out HLG.out fun u hu hl => by obtain ⟨_, h, _⟩ := HU.out u hu hl; cases h)
  · go_wp2
    obtain ⟨r0, r1, r2, r3, r4, _⟩ := HS0.out
    exact bodyPost_ret (v := .tuple #[.agg #[.int .i64 0, .int .i64 0, .int .i64 0, .int .i64 0, .bool false], .bool false]) (by simp [results, Tryd.results15, go_sem, r0, r1, r2, r3, r4]) rfl (parsed_no HB6.out HLG.out fun u hu hl => by obtain ⟨_, _, h, _⟩ := HU.out u hu hl; cases h)
  · go_wp2_with fail
    refine (c_spec_FormatTask a b d v c _).mono ?_
    rintro r w5 ⟨rfl, hb5⟩
    have HT7 := Lib.hid (HT6.out.below hb5)
    have HG7 := Lib.hid (HG6.out.below hb5)
    have HGf7 := Lib.hid (show Free5 w5 G from ⟨((bcell hb5).2 _ _ k5).trans q0, ((bcell hb5).2 _ _ k5).trans q1, ((bcell hb5).2 _ _ k5).trans q2, ((bcell hb5).2 _ _ k5).trans q3, ((bcell hb5).2 _ _ k5).trans q4⟩)
    have HB7 := Lib.hid (below2 HB6.out hb5)
    clear hb5 t0 t1 t2 t3 t4 t5 k0 k1 k2 k3 k4 k5 q0 q1 q2 q3 q4
    obtain ⟨t0, t1, t2, t3, t4, t5⟩ := HT7.out
    obtain ⟨k0, k1, k2, k3, k4, k5⟩ := HG7.out
    obtain ⟨q0, q1, q2, q3, q4⟩ := HGf7.out
    by_cases heq : fmtT ⟨a, b, d, v, c⟩ = s.data.toList
    · have HEQ := Lib.hid heq
      have ht1 : ((bs (fmtT ⟨a, b, d, v, c⟩)).toList == s.toList) = true := by rw [beq_iff_eq, bsL, ByteArray.toList_eq]; exact heq
      clear heq
      go_wp2
      have HS7 := set5 HG7.out (.int .i64 a) (.int .i64 b) (.int .i64 d) (.int .i64 v) (.bool c)
      obtain ⟨r0, r1, r2, r3, r4, _⟩ := HS7
      exact bodyPost_ret (v := .tuple #[.agg #[.int .i64 a, .int .i64 b, .int .i64 d, .int .i64 v, .bool c], .bool true]) (by simp [results, Tryd.results15, go_sem, r0, r1, r2, r3, r4]) rfl (parsed_yes HB7.out HLG.out (isP_yes (by rw [H3.out]; decide) HEQ.out))
    · have HEQ := Lib.hid heq
      have ht1 : ((bs (fmtT ⟨a, b, d, v, c⟩)).toList == s.toList) = false := by rw [beq_eq_false_iff_ne, bsL, ByteArray.toList_eq]; exact heq
      clear heq
      go_wp2
      have HS7 := set5 HG7.out (.int .i64 0) (.int .i64 0) (.int .i64 0) (.int .i64 0) (.bool false)
      obtain ⟨r0, r1, r2, r3, r4, _⟩ := HS7
      exact bodyPost_ret (v := .tuple #[.agg #[.int .i64 0, .int .i64 0, .int .i64 0, .int .i64 0, .bool false], .bool false]) (by simp [results, Tryd.results15, go_sem, r0, r1, r2, r3, r4]) rfl (parsed_no HB7.out HLG.out fun u hu hl => by
        obtain ⟨_, _, _, h⟩ := HU.out u hu hl
        subst h
        exact HEQ.out hl)
/-- Neither three pieces nor five. -/
theorem c_spec_ParseTask_none (s : ByteArray) (w : World) (hs : s.size ≤ 1048576) (h3 : (cutL 32 s.data.toList).length ≠ 3) (h5 : (cutL 32 s.data.toList).length ≠ 5) : Calls Tryd.prog 15 #[.string s] w (Parsed w s.data.toList) := by
  have HNO := Lib.hid (show ∀ u : Tk, u.ok = true → fmtT u ≠ s.data.toList from fun u hu hl => by rcases task_num hu hl with h | h <;> contradiction)
  go_enter Tryd.func15, Tryd.ntmps15
  go_wp2_with fail
  refine (c_l11Cut s 32 32 _ rfl hs).mono ?_
  rintro r w1 ⟨A1, n1, c1, rfl, hb1, ho1, hn1⟩
  have hlen := ho1.1
  rw [List.length_map] at hlen
  have hx1 : ((n1 : Int) != 3) = true := by rw [bne_iff_ne]; omega
  have hx2 : ((n1 : Int) != 5) = true := by rw [bne_iff_ne]; omega
  obtain ⟨K5, q0, q1, q2, q3, q4⟩ := made5 hb1
  have HK5 := Lib.hid K5
  obtain ⟨k0, k1, k2, k3, k4, k5⟩ := K5
  have HB := Lib.hid (below2 (below_alloc (w := w) _) hb1)
  clear ho1 hb1 hlen h3 h5 hs
  go_wp2
  obtain ⟨r0, r1, r2, r3, r4, _⟩ := set5 HK5.out (.int .i64 0) (.int .i64 0) (.int .i64 0) (.int .i64 0) (.bool false)
  exact bodyPost_ret (v := .tuple #[.agg #[.int .i64 0, .int .i64 0, .int .i64 0, .int .i64 0, .bool false], .bool false]) (by simp [results, Tryd.results15, go_sem, r0, r1, r2, r3, r4]) rfl (parsed_no HB.out (Nat.le_refl _) HNO.out)
/-- The reference's parser of tasks. -/
theorem c_spec_ParseTask (s : ByteArray) (w : World) (hs : s.size ≤ 1048576) : Calls Tryd.prog 15 #[.string s] w (Parsed w s.data.toList) := by
  by_cases h3 : (cutL 32 s.data.toList).length = 3
  · exact c_spec_ParseTask_three s w hs h3
  by_cases h5 : (cutL 32 s.data.toList).length = 5
  · exact c_spec_ParseTask_five s w hs h5
  · exact c_spec_ParseTask_none s w hs h3 h5
end Go.Proofs.YtncpnjnmljobgaaDoor
