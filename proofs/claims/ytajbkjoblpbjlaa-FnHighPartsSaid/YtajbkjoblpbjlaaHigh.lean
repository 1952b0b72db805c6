/-
  Contracts of HighShare.
-/
import Derived.Test.YtajbkjoblpbjlaaSum
import Derived.Test.YtajbkjoblpbjlaaCrit
namespace Go.Proofs.Ytajbkjoblpbjlaa
open Go.RowKit
theorem sel_crit (ts : List Tk) : sel true (critL ts) = critL ts := by
  unfold sel critL
  rw [List.filter_eq_self]
  intro t ht
  obtain ⟨u, hu, rfl⟩ := List.mem_map.1 ht
  have := (List.mem_filter.1 hu).2
  simpa [critT] using this
theorem fs_crit_aux (hi : Bool) (us : List Tk) : ∀ pq, (us.map critT).foldl (fsStep (nd hi)) pq = us.foldl (fsStep (nd true)) pq := by
  induction us with
  | nil => intro pq; rfl
  | cons u us ih =>
    intro pq
    have e : fsStep (nd hi) pq (critT u) = fsStep (nd true) pq u := by cases hi <;> rfl
    rw [List.map_cons, List.foldl_cons, List.foldl_cons, e, ih]
theorem fs_crit (hi : Bool) (ts : List Tk) : fs (nd hi) (critL ts) = fs (nd true) (sel true ts) := by
  have e : sel true ts = ts.filter (·.crit) := by unfold sel; congr 1; funext t; cases t.crit <;> rfl
  rw [e]
  exact fs_crit_aux hi _ _
/-- The share of the critical tasks alone. -/
theorem su_crit {ts : List Tk} (hv : svB ts = true) (hi : Bool) : suN (critL ts) true hi = suN ts true true ∧ suD (critL ts) true hi = suD ts true true := by
  obtain ⟨a1, a2⟩ := su_yes hv true true
  obtain ⟨b1, b2⟩ := su_yes (svB_critL hv) true hi
  rw [a1, a2, b1, b2, sel_crit]
  unfold fsN fsD
  rw [fs_crit]
  exact ⟨rfl, rfl⟩
set_option maxHeartbeats 400000 in
theorem c_spec_HighShare (A : Option Addr) (n c : Nat) (ts : List Tk) (w : World) (h : IsTs w A n ts) (hn : n ≤ 140737488351232) :
    Calls Try.prog 32 #[.slice A n c] w (Ret w (.agg #[.int .i64 (suN ts true true), .int .i64 (suD ts true true)])) := by
  have HL := Lib.hid h.1
  have H := Lib.hid (h.below (below_alloc (.cells #[.int .i64 0, .int .i64 0] 39)))
  clear h
  cases hv : svB ts
  · obtain ⟨e1, e2⟩ := su_no hv true true
    rw [e1, e2]
    clear e1 e2
    go_enter Try.func32, Try.ntmps32
    go_wp2_with fail
    refine (c_spec_SetValid A n c ts _ H.out hn).mono ?_
    rintro r w1 ⟨rfl, hb1⟩
    obtain ⟨hc1, hf1⟩ := bcell hb1
    have hz1 := lt1 hb1
    have hB := below2 (below_alloc _) hb1
    go_wp2
    refine bodyPost_ret (v := .agg #[.int .i64 0, .int .i64 0]) (by simp [results, Try.results32, go_sem, hc1]) rfl ⟨rfl, ?_⟩
    go_grown
  · obtain ⟨e1, e2⟩ := su_crit hv false
    rw [← e1, ← e2]
    have HV := Lib.hid hv
    have hl5 := svB_len hv
    have hcl := critL_len ts
    clear e1 e2 hv
    go_enter Try.func32, Try.ntmps32
    go_wp2_with fail
    refine (c_spec_SetValid A n c ts _ H.out hn).mono ?_
    rintro r w1 ⟨rfl, hb1⟩
    rw [HV.out]
    have HB1 := Lib.hid hb1
    clear hb1
    go_wp2_with fail
    refine (c_spec_CriticalOf A n c ts _ (H.out.below HB1.out) hn).mono ?_
    rintro r w2 ⟨A2, n2, c2, rfl, hb2, ho2⟩
    rw [crA_yes HV.out] at ho2
    have hn2 : n2 ≤ 5 := by have := ho2.1; omega
    have HB2 := Lib.hid (below2 HB1.out hb2)
    have HO2 := Lib.hid ho2
    clear hb2 ho2
    go_wp2_with fail
    refine (c_spec_LowShare A2 n2 c2 (critL ts) true _ HO2.out.isTs (by omega)).mono ?_
    rintro r w3 ⟨rfl, hb3⟩
    have hb3' := below2 HB2.out hb3
    obtain ⟨hc1, hf1⟩ := bcell hb3'
    have hz1 := lt1 hb3'
    have hB := below2 (below_alloc _) hb3'
    clear hb3
    go_wp2
    refine bodyPost_ret (v := .agg #[.int .i64 (suN (critL ts) true false), .int .i64 (suD (critL ts) true false)]) (by simp [results, Try.results32, go_sem, hc1]) rfl ⟨rfl, ?_⟩
    go_grown
end Go.Proofs.Ytajbkjoblpbjlaa
