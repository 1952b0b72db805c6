/-
  Contracts of the shares of tasks.
-/
import Derived.Test.YtbcionecepdkfaaList
import Derived.Test.YtbcionecepdkfaaOwnAdd
import Derived.Test.YtbcionecepdkfaaShare2
import Derived.Test.YtbcionecepdkfaaMathF
import Derived.Test.YtbcionecepdkfaaMathC
import Derived.Deep.DeepCutAuto
namespace Go.Proofs.Ytbcionecepdkfaa
open Go.RowKit
/-- The need of a task in a mode; the tasks that are critical, or are not. -/
def nd (hi : Bool) (t : Tk) : Int := need t.low t.high hi
def sel (cr : Bool) (ts : List Tk) : List Tk := ts.filter fun t => t.crit == cr
theorem sel_yes {cr : Bool} {ts : List Tk} {k : Nat} {t : Tk} (h : ts[k]? = some t) (hc : t.crit = cr) : sel cr (ts.take (k + 1)) = sel cr (ts.take k) ++ [t] := by
  unfold sel
  rw [List.take_add_one, h, List.filter_append]
  simp [hc]
theorem sel_no {cr : Bool} {ts : List Tk} {k : Nat} {t : Tk} (h : ts[k]? = some t) (hc : (t.crit == cr) = false) : sel cr (ts.take (k + 1)) = sel cr (ts.take k) := by
  unfold sel
  rw [List.take_add_one, h, List.filter_append]
  simp [hc]
theorem sel_len (cr : Bool) (ts : List Tk) : (sel cr ts).length ≤ ts.length := List.length_filter_le _ _
theorem sel_mem {cr : Bool} {ts : List Tk} {t : Tk} (h : t ∈ sel cr ts) : t ∈ ts ∧ t.crit = cr := by
  obtain ⟨h1, h2⟩ := List.mem_filter.1 h
  exact ⟨h1, by simpa using h2⟩
theorem nd_ok {t : Tk} (h : t.ok = true) (hi : Bool) : 1 ≤ nd hi t ∧ nd hi t ≤ t.every ∧ 1 ≤ t.every ∧ t.every ≤ 20 := by
  have h1 := tvB_true h
  have h2 := need_pos (l := t.low) (h := t.high) hi (by omega) (by omega)
  unfold nd
  omega
theorem sel_ok {ts : List Tk} (hv : svB ts = true) (cr hi : Bool) : needOk (nd hi) (sel cr ts) := by
  intro t ht
  obtain ⟨h1, _⟩ := sel_mem ht
  obtain ⟨k, hk, rfl⟩ := List.mem_iff_getElem.1 h1
  exact nd_ok (svB_ok hv (List.getElem?_eq_getElem hk)) hi
theorem take_ok {ts : List Tk} (hv : svB ts = true) (k : Nat) : svB (ts.take k) = true := by
  have hl := svB_len hv
  refine svB_of (by rw [List.length_take]; omega) fun j t ht => ?_
  rw [List.getElem?_take] at ht
  by_cases hj : j < k
  · rw [if_pos hj] at ht; exact svB_ok hv ht
  · rw [if_neg hj] at ht; cases ht
/-- What the sum of shares answers. -/
def suN (ts : List Tk) (cr hi : Bool) : Int := if svB ts = true then fsN (nd hi) (sel cr ts) else 0
def suD (ts : List Tk) (cr hi : Bool) : Int := if svB ts = true then fsD (nd hi) (sel cr ts) else 0
theorem su_no {ts : List Tk} (h : svB ts = false) (cr hi : Bool) : suN ts cr hi = 0 ∧ suD ts cr hi = 0 := ⟨if_neg (by simp [h]), if_neg (by simp [h])⟩
theorem su_yes {ts : List Tk} (h : svB ts = true) (cr hi : Bool) : suN ts cr hi = fsN (nd hi) (sel cr ts) ∧ suD ts cr hi = fsD (nd hi) (sel cr ts) := ⟨if_pos h, if_pos h⟩
theorem fs_start (f : Tk → Int) : fsN f [] = 0 ∧ fsD f [] = 1 := ⟨by unfold fsN fs; exact (show rn 0 1 = 0 by decide), by unfold fsD fs; exact (show rd 0 1 = 1 by decide)⟩
theorem Blk.below {w w' : World} {g B : Nat} {t : TypeId} {cs : Array Value} (h : Blk w g t cs) (hb : Below B w w') (hg : g < B) : Blk w' g t cs := (hb.block g hg).trans h
theorem Blk.two {w : World} {g : Nat} {t : TypeId} {u0 u1 : Value} (h : Blk w g t #[u0, u1]) : w.cell? ⟨g, 0, none⟩ = some u0 ∧ w.cell? ⟨g, 1, none⟩ = some u1 ∧ w.frozen? ⟨g, 0, none⟩ = false ∧ w.frozen? ⟨g, 1, none⟩ = false := ⟨h.cell 0, h.cell 1, h.frozen 0, h.frozen 1⟩
theorem Blk.put2 {w : World} {g : Nat} {t : TypeId} {u0 u1 : Value} (h : Blk w g t #[u0, u1]) (v0 v1 : Value) : Blk ((w.setCell ⟨g, 0, none⟩ v0).setCell ⟨g, 1, none⟩ v1) g t #[v0, v1] := (h.set_ 0 v0).set_ 1 v1
theorem Blk.far {w : World} {g b i : Nat} {t : TypeId} {cs : Array Value} (h : Blk w g t cs) (u : Value) (hne : g ≠ b) : Blk (w.setCell ⟨b, i, none⟩ u) g t cs := (Below.heap_setCell w ⟨b, i, none⟩ u g hne).trans h
/-- The bounds of the sum so far. -/
theorem fsum_small {ts : List Tk} (hv : svB ts = true) (cr hi : Bool) (k : Nat) : 0 ≤ fsN (nd hi) (sel cr (ts.take k)) ∧ fsN (nd hi) (sel cr (ts.take k)) ≤ 16000000 ∧ 1 ≤ fsD (nd hi) (sel cr (ts.take k)) ∧ fsD (nd hi) (sel cr (ts.take k)) ≤ 3200000 := by
  have h := take_ok hv k
  have hl := svB_len h
  have hs := sel_len cr (ts.take k)
  exact fsN_bd (by omega) (sel_ok h cr hi)
theorem ok_small' {t : Tk} (h : t.ok = true) : (1 ≤ t.low ∧ t.low ≤ 20) ∧ (1 ≤ t.high ∧ t.high ≤ 20) ∧ (1 ≤ t.every ∧ t.every ≤ 20) := by
  have := tvB_true h
  omega
theorem small_mul {x e B : Int} (h0 : 0 ≤ x) (h1 : x ≤ B) (e0 : 1 ≤ e) (e1 : e ≤ 20) : 0 ≤ x * e ∧ x * e ≤ B * 20 := ⟨Int.mul_nonneg h0 (by omega), Int.mul_le_mul h1 e1 (by omega) (by omega)⟩
set_option maxHeartbeats 1000000 in
theorem c_sumOf (A : Option Addr) (n c : Nat) (ts : List Tk) (cr hi : Bool) (w : World) (h : IsTs w A n ts) (hn : n ≤ 140737488351232) :
    Calls Try.prog 40 #[.slice A n c, .bool cr, .bool hi] w (Ret w (.agg #[.int .i64 (suN ts cr hi), .int .i64 (suD ts cr hi)])) := by
  have H := Lib.hid (h.below (below_alloc (.cells #[.int .i64 0, .int .i64 0] 40)))
  have HL := Lib.hid h.1
  have H0 := Lib.hid h
  clear h
  cases hv : svB ts
  · obtain ⟨e1, e2⟩ := su_no hv cr hi
    rw [e1, e2]
    clear e1 e2
    go_enter Try.func40, Try.ntmps40
    go_wp2_with fail
    refine (c_impl_SetValid A n c ts _ H.out hn).mono ?_
    rintro r w1 ⟨rfl, hb1⟩
    obtain ⟨hc1, hf1⟩ := bcell hb1
    have hz1 := lt1 hb1
    have hB := below2 (below_alloc _) hb1
    go_wp2
    refine bodyPost_ret (v := .agg #[.int .i64 0, .int .i64 0]) (by simp [results, Try.results40, go_sem, hc1]) rfl ⟨rfl, ?_⟩
    go_grown
  · obtain ⟨e1, e2⟩ := su_yes hv cr hi
    rw [e1, e2]
    clear e1 e2
    have hl5 := svB_len hv
    have hn5 : n ≤ 5 := by have := HL.out; omega
    have HV := Lib.hid hv
    go_enter Try.func40, Try.ntmps40
    go_wp2_with fail
    refine (c_impl_SetValid A n c ts _ H.out hn).mono ?_
    rintro r w1 ⟨rfl, hb1⟩
    have hz1 := lt1 hb1
    have HK := Lib.hid (((Blk.new w 40 #[.int .i64 0, .int .i64 0]).below hb1 (by simp)).below (below_alloc (.cells #[.int .i64 0, .int .i64 1] 40)) hz1)
    have HB1 := Lib.hid (below2 (below2 (below_alloc _) hb1) (below_alloc (.cells #[.int .i64 0, .int .i64 1] 40)))
    have HN := Lib.hid (Blk.new w1 40 #[.int .i64 0, .int .i64 1])
    have HE := Lib.hid (fs_start (nd hi))
    rw [HV.out]
    clear hb1 hv
    go_wp2
    go_loopw [18] (fun i wr => ∃ k : Nat, k ≤ n ∧ i = .int .i64 k ∧ Below w.heap.size w wr ∧ w1.heap.size < wr.heap.size ∧ Blk wr w.heap.size 40 #[.int .i64 0, .int .i64 0] ∧ Blk wr w1.heap.size 40 #[.int .i64 (fsN (nd hi) (sel cr (ts.take k))), .int .i64 (fsD (nd hi) (sel cr (ts.take k)))]) (fun i _ => n - (intOf i).toNat)
    case atStart => exact ⟨0, Nat.zero_le _, rfl, HB1.out, by simp, HK.out, by rw [show ts.take 0 = [] from rfl, show sel cr [] = [] from rfl, HE.out.1, HE.out.2]; exact HN.out⟩
    case round =>
      clear HB1 HK HN HE
      obtain ⟨k, hk, rfl, hb, hw1, hk6, hk7⟩ := hrel
      have HB := Lib.hid hb
      obtain ⟨p0, p1, p2, p3⟩ := hk7.two
      obtain ⟨r0, r1, r2, r3⟩ := hk6.two
      have HK6 := Lib.hid hk6
      have HK7 := Lib.hid hk7
      have hw0 := hk6.lt
      clear hb hk6 hk7
      by_cases hlt : k < n
      · obtain ⟨t, ht⟩ : ∃ t, ts[k]? = some t := at_of (by have := HL.out; omega)
        obtain ⟨b, o, rfl, hbb, h0, h1, h2, h3, h4⟩ := (H0.out.below HB.out).2 k t ht
        have HT := Lib.hid ht
        by_cases hc : t.crit = cr
        · rw [hc] at h4
          have hb := fsum_small HV.out cr hi k
          have hso := Lib.hid (fsN_snoc (f := nd hi) (ts := sel cr (ts.take k)) (t := t) (by rw [← sel_yes ht hc]; exact sel_ok (take_ok HV.out (k + 1)) cr hi))
          have hsy := Lib.hid (sel_yes ht hc)
          have hts := ok_small' (svB_ok HV.out ht)
          have HC := Lib.hid hc
          generalize hP : fsN (nd hi) (sel cr (ts.take k)) = P at *
          generalize hQ : fsD (nd hi) (sel cr (ts.take k)) = Q at *
          have hp0 := hb.1
          have hp1 := hb.2.1
          have hq0 := hb.2.2.1
          have hq1 := hb.2.2.2
          have m1 := small_mul hp0 hp1 hts.2.2.1 hts.2.2.2
          have m2 := small_mul (show 0 ≤ Q by omega) hq1 hts.2.2.1 hts.2.2.2
          have m3 : 1 * 1 ≤ Q * t.every := Int.mul_le_mul hq0 hts.2.2.1 (by omega) (by omega)
          have m4 := small_mul (show 0 ≤ Q by omega) hq1 hts.1.1 hts.1.2
          have m5 := small_mul (show 0 ≤ Q by omega) hq1 hts.2.1.1 hts.2.1.2
          rw [Int.mul_comm Q t.low] at m4
          rw [Int.mul_comm Q t.high] at m5
          obtain ⟨m1a, m1b⟩ := m1
          obtain ⟨m2a, m2b⟩ := m2
          obtain ⟨m4a, m4b⟩ := m4
          obtain ⟨m5a, m5b⟩ := m5
          have HP := Lib.hid hP
          have HQ := Lib.hid hQ
          clear hc ht hP hQ hb hts
          cases hi
          all_goals
            go_wp2_with fail
            refine (c_reduced _ _ _ (by omega) (by omega) (by omega) (by omega)).mono ?_
            rintro r w2 ⟨rfl, hb2⟩
            have HB2 := Lib.hid (below2 HB.out (below2 (below_alloc _) hb2))
            have K6 := Lib.hid ((HK6.out.below (below_alloc _) HK6.out.lt).below hb2 (by simp; omega))
            have k7 := (HK7.out.below (below_alloc _) HK7.out.lt).below hb2 (by simp; omega)
            have K7 := Lib.hid k7
            obtain ⟨x0, x1, x2, x3⟩ := k7.two
            have hw2 : w1.heap.size < w2.heap.size := by have := hb2.size; simp at this; omega
            clear hb2 k7 p0 p1 p2 p3 r0 r1 r2 r3
            go_wp2
            go_roundw
            case rel =>
              refine ⟨k + 1, by omega, by go_num, (HB2.out.setCell (by show w.heap.size ≤ w1.heap.size; omega) _).setCell (by show w.heap.size ≤ w1.heap.size; omega) _, by simpa using hw2, (K6.out.far _ (by omega)).far _ (by omega), ?_⟩
              rw [hsy.out, ← hso.out.1, ← hso.out.2]
              exact K7.out.put2 _ _
            case measure => simp [intOf]; omega
        · have hx : (t.crit == cr) = false := by rw [beq_eq_false_iff_ne]; exact hc
          have hx' : (t.crit != cr) = true := by rw [bne, hx]; rfl
          have HX := Lib.hid hx
          clear hc ht
          go_wp2
          go_roundw
          case rel => exact ⟨k + 1, by omega, by go_num, below2 HB.out (below_alloc _), by simp; omega, HK6.out.below (below_alloc _) HK6.out.lt, by rw [sel_no HT.out HX.out]; exact HK7.out.below (below_alloc _) HK7.out.lt⟩
          case measure => simp [intOf]; omega
      · have HZ := Lib.hid (show ts.take k = ts from List.take_of_length_le (by have := HL.out; omega))
        rw [HZ.out] at p0 p1
        go_wp2
        refine bodyPost_ret (v := .agg #[.int .i64 (fsN (nd hi) (sel cr ts)), .int .i64 (fsD (nd hi) (sel cr ts))]) (by simp [results, Try.results40, go_sem, r0, r1]) rfl ⟨rfl, ?_⟩
        exact (HB.out.setCell (p := ⟨w.heap.size, 0, none⟩) (Nat.le_refl _) _).setCell (p := ⟨w.heap.size, 1, none⟩) (Nat.le_refl _) _
theorem c_impl_LowShare (A : Option Addr) (n c : Nat) (ts : List Tk) (cr : Bool) (w : World) (h : IsTs w A n ts) (hn : n ≤ 140737488351232) :
    Calls Try.prog 23 #[.slice A n c, .bool cr] w (Ret w (.agg #[.int .i64 (suN ts cr false), .int .i64 (suD ts cr false)])) := by
  have H := Lib.hid (h.below (below_alloc (.cells #[.int .i64 0, .int .i64 0] 40)))
  clear h
  go_enter Try.func23, Try.ntmps23
  go_wp2_with fail
  refine (c_sumOf A n c ts cr false _ H.out hn).mono ?_
  rintro r w1 ⟨rfl, hb1⟩
  obtain ⟨hc1, hf1⟩ := bcell hb1
  have hz1 := lt1 hb1
  have hB := below2 (below_alloc _) hb1
  go_wp2
  refine bodyPost_ret (v := .agg #[.int .i64 (suN ts cr false), .int .i64 (suD ts cr false)]) (by simp [results, Try.results23, go_sem, hc1]) rfl ⟨rfl, ?_⟩
  go_grown
theorem c_impl_HighShare (A : Option Addr) (n c : Nat) (ts : List Tk) (w : World) (h : IsTs w A n ts) (hn : n ≤ 140737488351232) :
    Calls Try.prog 25 #[.slice A n c] w (Ret w (.agg #[.int .i64 (suN ts true true), .int .i64 (suD ts true true)])) := by
  have H := Lib.hid (h.below (below_alloc (.cells #[.int .i64 0, .int .i64 0] 40)))
  clear h
  go_enter Try.func25, Try.ntmps25
  go_wp2_with fail
  refine (c_sumOf A n c ts true true _ H.out hn).mono ?_
  rintro r w1 ⟨rfl, hb1⟩
  obtain ⟨hc1, hf1⟩ := bcell hb1
  have hz1 := lt1 hb1
  have hB := below2 (below_alloc _) hb1
  go_wp2
  refine bodyPost_ret (v := .agg #[.int .i64 (suN ts true true), .int .i64 (suD ts true true)]) (by simp [results, Try.results25, go_sem, hc1]) rfl ⟨rfl, ?_⟩
  go_grown
theorem cellLt2 {w : World} {a : Addr} {v : Value} (h : w.cell? a = some v) : a.block < w.heap.size := by
  rcases Nat.lt_or_ge a.block w.heap.size with hlt | hge
  · exact hlt
  · simp [World.cell?, Array.getElem?_eq_none hge] at h
theorem keep2 {f : FuncId} {args : Array Value} {W : World} {v u1 u2 : Value} {b1 o1 b2 o2 : Nat} (h : Calls Try.prog f args W (Ret W v)) (h1 : W.cell? ⟨b1, o1, none⟩ = some u1) (h2 : W.cell? ⟨b2, o2, none⟩ = some u2) :
    Calls Try.prog f args W fun r w' => Ret W v r w' ∧ w'.cell? ⟨b1, o1, none⟩ = some u1 ∧ w'.cell? ⟨b2, o2, none⟩ = some u2 :=
  h.mono fun _ _ hr => ⟨hr, ((bcell hr.2).1 b1 o1 (cellLt2 h1)).trans h1, ((bcell hr.2).1 b2 o2 (cellLt2 h2)).trans h2⟩
/-- What a statement 'v, ok := F(..)' leaves: a new block with the share, and the answer. -/
def AddLeft (w : World) (N D : Int) (B : Bool) (s5 s6 : Value) (wx : World) : Prop :=
  ∃ g : Nat, s5 = .pointer (some ⟨g, 0, none⟩) ∧ s6 = .bool B ∧ Below w.heap.size w wx ∧ w.heap.size ≤ g ∧ g < wx.heap.size ∧ wx.cell? ⟨g, 0, none⟩ = some (.int .i64 N) ∧ wx.cell? ⟨g, 1, none⟩ = some (.int .i64 D)
theorem l2_task {P Q l e : Int} (hs : shB P Q = true) (l0 : 0 ≤ l) (l1 : l ≤ 20) (e0 : 1 ≤ e) (e1 : e ≤ 20) (hN : rn (P * e + l * Q) (Q * e) ≤ 1000000000) (hD : rd (P * e + l * Q) (Q * e) ≤ 1000000000) :
    shB (msN l e) (msD l e) = true ∧ adN P Q (msN l e) (msD l e) = rn (P * e + l * Q) (Q * e) ∧ adD P Q (msN l e) (msD l e) = rd (P * e + l * Q) (Q * e) := by
  have hm : msB l e = true := decide_eq_true (by omega)
  have hs2 := sh_made hm
  obtain ⟨_, _, _, _, n1, n2⟩ := ms_true hm
  obtain ⟨P0, P1, Q0, Q1, _, _⟩ := shB_msB hs
  have k1 := rn_back (x := l) (y := e) l0 (by omega)
  have k2 := rd_back (x := l) (y := e) l0 (by omega)
  have hg := igcd_pos (x := l) e0
  have b1 := rn_bd l0 e0
  have b2 := rd_bd (a := l) e0
  have key : smN P Q (rn l e) (rd l e) = rn (P * e + l * Q) (Q * e) ∧ smD P Q (rn l e) (rd l e) = rd (P * e + l * Q) (Q * e) := by
    unfold smN smD
    generalize rn l e = p at *
    generalize rd l e = q at *
    generalize igcd l e = g at *
    have e1 : P * e + l * Q = g * (P * q + p * Q) := by rw [← k1, ← k2, Int.mul_add, Int.mul_assoc, Int.mul_left_comm P g q]
    have e2 : Q * e = g * (Q * q) := by rw [← k2, Int.mul_left_comm Q g q]
    have t1 : 0 ≤ P * q := Int.mul_nonneg P0 (by omega)
    have t2 : 0 ≤ p * Q := Int.mul_nonneg b1.1 (by omega)
    have t3 : 0 ≤ Q * q := Int.mul_nonneg (by omega) (by omega)
    rw [e1, e2, rn_mul hg (by omega) t3, rd_mul hg (by omega) t3]
    exact ⟨rfl, rfl⟩
  refine ⟨hs2, ?_⟩
  rw [n1, n2] at hs2 ⊢
  rcases ad_ways P Q (rn l e) (rd l e) with ⟨x, _⟩ | ⟨_, x, _⟩ | ⟨_, _, x, _⟩ | ⟨_, _, _, x, _⟩ | ⟨_, _, _, _, _, y1, y2⟩
  · rw [hs] at x; cases x
  · rw [hs2] at x; cases x
  · rw [key.1] at x; exact absurd hN x
  · rw [key.2] at x; exact absurd hD x
  · rw [y1, y2]; exact key
theorem fsum_sh {ts : List Tk} (hv : svB ts = true) (cr hi : Bool) (k : Nat) : shB (fsN (nd hi) (sel cr (ts.take k))) (fsD (nd hi) (sel cr (ts.take k))) = true := by
  have h := take_ok hv k
  have hl := svB_len h
  have hs := sel_len cr (ts.take k)
  exact fs_sh (by omega) (sel_ok h cr hi)
set_option maxHeartbeats 2000000 in
theorem c_spec_LowShare (A : Option Addr) (n c : Nat) (ts : List Tk) (cr : Bool) (w : World) (h : IsTs w A n ts) (hn : n ≤ 140737488351232) :
    Calls Try.prog 24 #[.slice A n c, .bool cr] w (Ret w (.agg #[.int .i64 (suN ts cr false), .int .i64 (suD ts cr false)])) := by
  have hba := below2 (below_alloc (w := w) (.cells #[.int .i64 0, .int .i64 0] 40)) (below_alloc (.cells #[.int .i64 0, .int .i64 1] 40))
  have H := Lib.hid (h.below hba)
  have HA := Lib.hid hba
  have HL := Lib.hid h.1
  have H0 := Lib.hid h
  clear h hba
  cases hv : svB ts
  · obtain ⟨e1, e2⟩ := su_no hv cr false
    rw [e1, e2]
    clear e1 e2
    go_enter Try.func24, Try.ntmps24
    go_wp2_with fail
    refine (c_spec_SetValid A n c ts _ H.out hn).mono ?_
    rintro r w1 ⟨rfl, hb1⟩
    have hz1 := lt2 hb1
    have q0 := (bcell hb1).1 w.heap.size 0 (by simp; omega)
    have q1 := (bcell hb1).1 w.heap.size 1 (by simp; omega)
    have f0 := (bcell hb1).2 w.heap.size 0 (by simp; omega)
    have f1 := (bcell hb1).2 w.heap.size 1 (by simp; omega)
    simp at q0 q1 f0 f1
    have HB := Lib.hid (below2 HA.out hb1)
    clear hb1
    go_wp2
    refine bodyPost_ret (v := .agg #[.int .i64 0, .int .i64 0]) (by simp [results, Try.results24, go_sem, q0, q1]) rfl ⟨rfl, ?_⟩
    exact (HB.out.setCell (p := ⟨w.heap.size, 0, none⟩) (Nat.le_refl _) _).setCell (p := ⟨w.heap.size, 1, none⟩) (Nat.le_refl _) _
  · obtain ⟨e1, e2⟩ := su_yes hv cr false
    rw [e1, e2]
    clear e1 e2
    have hl5 := svB_len hv
    have hn5 : n ≤ 5 := by have := HL.out; omega
    have HV := Lib.hid hv
    go_enter Try.func24, Try.ntmps24
    go_wp2_with fail
    refine (c_spec_SetValid A n c ts _ H.out hn).mono ?_
    rintro r w1 ⟨rfl, hb1⟩
    have hz1 := lt2 hb1
    have HK := Lib.hid (((Blk.new w 40 #[.int .i64 0, .int .i64 0]).below (below_alloc (.cells #[.int .i64 0, .int .i64 1] 40)) (by simp)).below hb1 (by simp; omega))
    have hk5 := (Blk.new (w.alloc (.cells #[.int .i64 0, .int .i64 0] 40)) 40 #[.int .i64 0, .int .i64 1]).below hb1 (by simp)
    rw [World.size_alloc] at hk5
    have HN := Lib.hid hk5
    have HB1 := Lib.hid (below2 HA.out hb1)
    have HE := Lib.hid (fs_start (nd false))
    rw [HV.out]
    clear hb1 hv hk5
    go_wp2
    go_loopw [6] (fun i wr => ∃ k : Nat, k ≤ n ∧ i = .int .i64 k ∧ Below w.heap.size w wr ∧ w.heap.size + 1 < wr.heap.size ∧ Blk wr w.heap.size 40 #[.int .i64 0, .int .i64 0] ∧ Blk wr (w.heap.size + 1) 40 #[.int .i64 (fsN (nd false) (sel cr (ts.take k))), .int .i64 (fsD (nd false) (sel cr (ts.take k)))]) (fun i _ => n - (intOf i).toNat)
    case atStart => exact ⟨0, Nat.zero_le _, rfl, HB1.out, hz1.2, HK.out, by rw [show ts.take 0 = [] from rfl, show sel cr [] = [] from rfl, HE.out.1, HE.out.2]; exact HN.out⟩
    case round =>
      clear HB1 HK HN HE
      obtain ⟨k, hk, rfl, hb, hw1, hk6, hk7⟩ := hrel
      have HB := Lib.hid hb
      obtain ⟨p0, p1, p2, p3⟩ := hk7.two
      obtain ⟨r0, r1, r2, r3⟩ := hk6.two
      have HK6 := Lib.hid hk6
      have HK7 := Lib.hid hk7
      have hw0 := hk6.lt
      clear hb hk6 hk7
      by_cases hlt : k < n
      · obtain ⟨t, ht⟩ : ∃ t, ts[k]? = some t := at_of (by have := HL.out; omega)
        obtain ⟨b, o, rfl, hbb, h0, h1, h2, h3, h4⟩ := (H0.out.below HB.out).2 k t ht
        have HT := Lib.hid ht
        by_cases hc : t.crit = cr
        · rw [hc] at h4
          have hso := fsN_snoc (f := nd false) (ts := sel cr (ts.take k)) (t := t) (by rw [← sel_yes ht hc]; exact sel_ok (take_ok HV.out (k + 1)) cr false)
          have hsy := Lib.hid (sel_yes ht hc)
          have hts := ok_small' (svB_ok HV.out ht)
          have hs1 := fsum_sh HV.out cr false k
          have hb2 := fsum_small HV.out cr false (k + 1)
          rw [sel_yes ht hc, ← hso.1, ← hso.2, show nd false t = t.low from rfl] at hb2
          rw [show nd false t = t.low from rfl] at hso
          have hl2 := l2_task hs1 (l := t.low) (e := t.every) (by omega) (by omega) hts.2.2.1 hts.2.2.2 (by have := hb2.2.1; omega) (by have := hb2.2.2.2; omega)
          have HS1 := Lib.hid hs1
          have HL2 := Lib.hid hl2
          have HSO := Lib.hid hso
          clear hc ht hso hs1 hb2 hl2 hts
          have e0 := World.new_ne wr _ h0
          have e3 := World.new_ne wr _ h3
          go_upto_region 8 with fail
          go_cut [7, 8] (fun s7 s8 wx => AddLeft wr (msN t.low t.every) (msD t.low t.every) (msB t.low t.every) s7 s8 wx)
          case first =>
            clear p0 p1 p2 p3 r0 r1 r2 r3
            go_region_held3 (fun w' => w'.cell? ⟨b, o + k * 5, none⟩ = some (.int .i64 t.low) ∧ w'.cell? ⟨b, o + k * 5 + 3, none⟩ = some (.int .i64 t.every)) (go_keep)
              (first | (go_at_call 41; go_must (refine Calls.mono (keep2 (b1 := b) (o1 := o + k * 5) (u1 := .int .i64 t.low) (b2 := b) (o2 := o + k * 5 + 3) (u2 := .int .i64 t.every) (c_spec_MakeShare _ _ _) ?_ ?_) ?_; iterate 2 (first | (with_reducible assumption) | exact h0 | exact h3 | go_keep)); rintro r w3 ⟨⟨rfl, hb3⟩, x0, x3⟩; have e0 := World.new_ne w3 _ x0; have e3 := World.new_ne w3 _ x3; obtain ⟨hc3, hf3⟩ := bcell hb3; have hz3 := hb3.size; (try simp at hz3); (try have hz3a := Nat.lt_of_succ_le hz3)))
            all_goals
              go_wp2_with fail
              go_meet
              unfold AddLeft
              have hB3 : Below wr.heap.size wr w3 := below2 (by go_grown) hb3
              have s3 := hB3.size
              refine ⟨_, rfl, rfl, ?_, ?_, ?_, ?_, ?_⟩
              · go_grown
              · first | omega | (simp; omega)
              · first | omega | (simp; done) | (simp; omega)
              · first | (go_simp; done) | (simp; done)
              · first | (go_simp; done) | (simp; done)
          case rest =>
            obtain ⟨g, rfl, rfl, hbw, hg1, hg2, hg3, hg4⟩ := hcut
            have HBW := Lib.hid (below2 HB.out hbw)
            have K6 := Lib.hid (HK6.out.below hbw hw0)
            have k7 := HK7.out.below hbw hw1
            have K7 := Lib.hid k7
            clear p0 p1 p2 p3 r0 r1 r2 r3 e0 e3 h0 h1 h2 h3 h4
            obtain ⟨p0, p1, p2, p3⟩ := k7.two
            have hwc := k7.lt
            clear hbw k7
            obtain ⟨wo, rfl⟩ : ∃ wo : World, wo = wc := ⟨_, rfl⟩
            go_wp2_with fail
            refine (c_l2Add _ _ _ _ _ HS1.out HL2.out.1).mono ?_
            rintro r w2 ⟨rfl, hb2⟩
            rw [HL2.out.2.1, HL2.out.2.2]
            have HB2 := Lib.hid (below2 HBW.out hb2)
            have K62 := Lib.hid (K6.out.below hb2 K6.out.lt)
            have k72 := K7.out.below hb2 K7.out.lt
            have K72 := Lib.hid k72
            clear p0 p1 p2 p3 hg3 hg4
            obtain ⟨p0, p1, p2, p3⟩ := k72.two
            have hw2 := k72.lt
            clear hb2 k72
            go_wp2
            go_roundw
            case rel =>
              refine ⟨k + 1, by omega, by go_num, (HB2.out.setCell (by show w.heap.size ≤ w.heap.size + 1; omega) _).setCell (by show w.heap.size ≤ w.heap.size + 1; omega) _, by simpa using hw2, (K62.out.far _ (by omega)).far _ (by omega), ?_⟩
              rw [hsy.out, ← HSO.out.1, ← HSO.out.2]
              exact K72.out.put2 _ _
            case measure => simp [intOf]; omega
        · have hx : (t.crit == cr) = false := by rw [beq_eq_false_iff_ne]; exact hc
          have HX := Lib.hid hx
          clear hc ht
          go_wp2
          go_roundw
          case rel => exact ⟨k + 1, by omega, by go_num, HB.out, hw1, HK6.out, by rw [sel_no HT.out HX.out]; exact HK7.out⟩
          case measure => simp [intOf]; omega
      · have HZ := Lib.hid (show ts.take k = ts from List.take_of_length_le (by have := HL.out; omega))
        rw [HZ.out] at p0 p1
        go_wp2
        refine bodyPost_ret (v := .agg #[.int .i64 (fsN (nd false) (sel cr ts)), .int .i64 (fsD (nd false) (sel cr ts))]) (by simp [results, Try.results24, go_sem, r0, r1]) rfl ⟨rfl, ?_⟩
        exact (HB.out.setCell (p := ⟨w.heap.size, 0, none⟩) (Nat.le_refl _) _).setCell (p := ⟨w.heap.size, 1, none⟩) (Nat.le_refl _) _
end Go.Proofs.Ytbcionecepdkfaa
