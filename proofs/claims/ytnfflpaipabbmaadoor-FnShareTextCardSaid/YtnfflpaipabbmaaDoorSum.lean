/-
  Contracts of the shares of tasks.
-/
import Derived.Test.YtnfflpaipabbmaaDoorList
import Derived.Test.YtnfflpaipabbmaaDoorOwnAdd
import Derived.Test.YtnfflpaipabbmaaDoorShare2
import Derived.Test.YtnfflpaipabbmaaDoorMathF
import Derived.Test.YtnfflpaipabbmaaDoorMathC
import Derived.Deep.DeepCutAuto
namespace Go.Proofs.YtnfflpaipabbmaaDoor
set_option maxRecDepth 100000
open Go.RowKit
/-- The need of a task in a mode; the tasks that are critical, or are not. -/
def nd (hi : Bool) (t : Tk) : Int := need t.low t.high hi
def sel (cr : Bool) (ts : List Tk) : List Tk := ts.filter fun t => t.crit == cr
theorem sel_yes {cr : Bool} {ts : List Tk} {k : Nat} {t : Tk} (h : ts[k]? = some t) (hc : t.crit = cr) : sel cr (ts.take (k + 1)) = sel cr (ts.take k) ++ [t] := by
  unfold sel
  rw [List.take_add_one, h, List.filter_append]
  simp [hc]
theorem sel_no {cr : Bool} {ts : List Tk} {k : Nat} {t : Tk} (h : ts[k]? = some t) (hc : (t.crit == cr) = false) : sel cr (ts.take (k + 1)) = sel cr (ts.take k) := by
  unfold sel
  rw [List.take_add_one, h, List.filter_append]
  simp [hc]
theorem sel_len (cr : Bool) (ts : List Tk) : (sel cr ts).length ≤ ts.length := List.length_filter_le _ _
theorem sel_mem {cr : Bool} {ts : List Tk} {t : Tk} (h : t ∈ sel cr ts) : t ∈ ts ∧ t.crit = cr := by
  obtain ⟨h1, h2⟩ := List.mem_filter.1 h
  exact ⟨h1, by simpa using h2⟩
theorem nd_ok {t : Tk} (h : t.ok = true) (hi : Bool) : 1 ≤ nd hi t ∧ nd hi t ≤ t.every ∧ 1 ≤ t.every ∧ t.every ≤ 20 := by
  have h1 := tvB_true h
  have h2 := need_pos (l := t.low) (h := t.high) hi (by omega) (by omega)
  unfold nd
  omega
theorem sel_ok {ts : List Tk} (hv : svB ts = true) (cr hi : Bool) : needOk (nd hi) (sel cr ts) := by
  intro t ht
  obtain ⟨h1, _⟩ := sel_mem ht
  obtain ⟨k, hk, rfl⟩ := List.mem_iff_getElem.1 h1
  exact nd_ok (svB_ok hv (List.getElem?_eq_getElem hk)) hi
theorem take_ok {ts : List Tk} (hv : svB ts = true) (k : Nat) : svB (ts.take k) = true := by
  have hl := svB_len hv
  refine svB_of (by rw [List.length_take]; omega) fun j t ht => ?_
  rw [List.getElem?_take] at ht
  by_cases hj : j < k
  · rw [if_pos hj] at ht; exact svB_ok hv ht
  · rw [if_neg hj] at ht; cases ht
/-- What the sum of shares answers. -/
def suN (ts : List Tk) (cr hi : Bool) : Int := if svB ts = true then fsN (nd hi) (sel cr ts) else 0
def suD (ts : List Tk) (cr hi : Bool) : Int := if svB ts = true then fsD (nd hi) (sel cr ts) else 0
theorem su_no {ts : List Tk} (h : svB ts = false) (cr hi : Bool) : suN ts cr hi = 0 ∧ suD ts cr hi = 0 := ⟨if_neg (by simp [h]), if_neg (by simp [h])⟩
theorem su_yes {ts : List Tk} (h : svB ts = true) (cr hi : Bool) : suN ts cr hi = fsN (nd hi) (sel cr ts) ∧ suD ts cr hi = fsD (nd hi) (sel cr ts) := ⟨if_pos h, if_pos h⟩
theorem fs_start (f : Tk → Int) : fsN f [] = 0 ∧ fsD f [] = 1 := ⟨by unfold fsN fs; exact (show rn 0 1 = 0 by decide), by unfold fsD fs; exact (show rd 0 1 = 1 by decide)⟩
theorem Blk.below {w w' : World} {g B : Nat} {t : TypeId} {cs : Array Value} (h : Blk w g t cs) (hb : Below B w w') (hg : g < B) : Blk w' g t cs := (hb.block g hg).trans h
theorem Blk.two {w : World} {g : Nat} {t : TypeId} {u0 u1 : Value} (h : Blk w g t #[u0, u1]) : w.cell? ⟨g, 0, none⟩ = some u0 ∧ w.cell? ⟨g, 1, none⟩ = some u1 ∧ w.frozen? ⟨g, 0, none⟩ = false ∧ w.frozen? ⟨g, 1, none⟩ = false := ⟨h.cell 0, h.cell 1, h.frozen 0, h.frozen 1⟩
theorem Blk.put2 {w : World} {g : Nat} {t : TypeId} {u0 u1 : Value} (h : Blk w g t #[u0, u1]) (v0 v1 : Value) : Blk ((w.setCell ⟨g, 0, none⟩ v0).setCell ⟨g, 1, none⟩ v1) g t #[v0, v1] := (h.set_ 0 v0).set_ 1 v1
theorem Blk.far {w : World} {g b i : Nat} {t : TypeId} {cs : Array Value} (h : Blk w g t cs) (u : Value) (hne : g ≠ b) : Blk (w.setCell ⟨b, i, none⟩ u) g t cs := (Below.heap_setCell w ⟨b, i, none⟩ u g hne).trans h
/-- The bounds of the sum so far. -/
theorem fsum_small {ts : List Tk} (hv : svB ts = true) (cr hi : Bool) (k : Nat) : 0 ≤ fsN (nd hi) (sel cr (ts.take k)) ∧ fsN (nd hi) (sel cr (ts.take k)) ≤ 16000000 ∧ 1 ≤ fsD (nd hi) (sel cr (ts.take k)) ∧ fsD (nd hi) (sel cr (ts.take k)) ≤ 3200000 := by
  have h := take_ok hv k
  have hl := svB_len h
  have hs := sel_len cr (ts.take k)
  exact fsN_bd (by omega) (sel_ok h cr hi)
theorem ok_small' {t : Tk} (h : t.ok = true) : (1 ≤ t.low ∧ t.low ≤ 20) ∧ (1 ≤ t.high ∧ t.high ≤ 20) ∧ (1 ≤ t.every ∧ t.every ≤ 20) := by
  have := tvB_true h
  omega
theorem small_mul {x e B : Int} (h0 : 0 ≤ x) (h1 : x ≤ B) (e0 : 1 ≤ e) (e1 : e ≤ 20) : 0 ≤ x * e ∧ x * e ≤ B * 20 := ⟨Int.mul_nonneg h0 (by omega), Int.mul_le_mul h1 e1 (by omega) (by omega)⟩
theorem cellLt2 {w : World} {a : Addr} {v : Value} (h : w.cell? a = some v) : a.block < w.heap.size := by
  rcases Nat.lt_or_ge a.block w.heap.size with hlt | hge
  · exact hlt
  · simp [World.cell?, Array.getElem?_eq_none hge] at h
theorem keep2 {f : FuncId} {args : Array Value} {W : World} {v u1 u2 : Value} {b1 o1 b2 o2 : Nat} (h : Calls Tryd.prog f args W (Ret W v)) (h1 : W.cell? ⟨b1, o1, none⟩ = some u1) (h2 : W.cell? ⟨b2, o2, none⟩ = some u2) :
    Calls Tryd.prog f args W fun r w' => Ret W v r w' ∧ w'.cell? ⟨b1, o1, none⟩ = some u1 ∧ w'.cell? ⟨b2, o2, none⟩ = some u2 :=
  h.mono fun _ _ hr => ⟨hr, ((bcell hr.2).1 b1 o1 (cellLt2 h1)).trans h1, ((bcell hr.2).1 b2 o2 (cellLt2 h2)).trans h2⟩
end Go.Proofs.YtnfflpaipabbmaaDoor
