/-
  Rows of the call's own that hold tasks.
-/
import Derived.Test.YtncpnjnmljobgaaDoorBase
namespace Go.Proofs.YtncpnjnmljobgaaDoor
set_option maxRecDepth 100000
open Go.RowKit
def Tk.cells (t : Tk) : List Value := [.int .i64 t.low, .int .i64 t.high, .int .i64 t.due, .int .i64 t.every, .bool t.crit]
def tcells (ts : List Tk) : List Value := ts.flatMap Tk.cells
def Tk.zero : Tk := ⟨0, 0, 0, 0, false⟩
theorem Tk.cells_len (t : Tk) : t.cells.length = 5 := rfl
theorem tcells_cons (t : Tk) (ts : List Tk) : tcells (t :: ts) = t.cells ++ tcells ts := by simp [tcells]
theorem tcells_append (a b : List Tk) : tcells (a ++ b) = tcells a ++ tcells b := by simp [tcells]
theorem tcells_len (ts : List Tk) : (tcells ts).length = ts.length * 5 := by
  induction ts with
  | nil => rfl
  | cons t ts ih => rw [tcells_cons, List.length_append, ih, Tk.cells_len, List.length_cons]; omega
theorem tcells_at (ts : List Tk) (k : Nat) (t : Tk) (h : ts[k]? = some t) (j : Nat) (hj : j < 5) : (tcells ts)[k * 5 + j]? = t.cells[j]? := by
  induction ts generalizing k with
  | nil => simp at h
  | cons x ts ih =>
    rw [tcells_cons]
    cases k with
    | zero =>
      simp at h
      subst h
      rw [List.getElem?_append_left (by rw [Tk.cells_len]; omega)]
      simp
    | succ k =>
      simp at h
      rw [List.getElem?_append_right (by rw [Tk.cells_len]; omega), Tk.cells_len, ← ih k h]
      congr 1
      omega
def setT (xs : List Value) (k : Nat) (t : Tk) : List Value :=
  ((((xs.set (k * 5) (.int .i64 t.low)).set (k * 5 + 1) (.int .i64 t.high)).set (k * 5 + 2) (.int .i64 t.due)).set (k * 5 + 3) (.int .i64 t.every)).set (k * 5 + 4) (.bool t.crit)
theorem set_app (a b : List Value) (i : Nat) (u : Value) (h : a.length ≤ i) : (a ++ b).set i u = a ++ b.set (i - a.length) u := by
  rw [List.set_append, if_neg (by omega)]
theorem setT_tcells (ts : List Tk) (k : Nat) (t : Tk) : k < ts.length → setT (tcells ts) k t = tcells (ts.set k t) := by
  induction ts generalizing k with
  | nil => intro h; simp at h
  | cons x ts ih =>
    intro h
    cases k with
    | zero =>
      simp [setT, tcells_cons, Tk.cells]
    | succ k =>
      rw [List.set_cons_succ, tcells_cons, tcells_cons, ← ih k (by simpa using h)]
      unfold setT
      have e : x.cells.length = 5 := rfl
      rw [set_app _ _ _ _ (by omega), set_app _ _ _ _ (by omega), set_app _ _ _ _ (by omega), set_app _ _ _ _ (by omega), set_app _ _ _ _ (by omega), e]
      congr 1
      rw [show (k + 1) * 5 - 5 = k * 5 from by omega, show (k + 1) * 5 + 1 - 5 = k * 5 + 1 from by omega, show (k + 1) * 5 + 2 - 5 = k * 5 + 2 from by omega, show (k + 1) * 5 + 3 - 5 = k * 5 + 3 from by omega, show (k + 1) * 5 + 4 - 5 = k * 5 + 4 from by omega]
theorem tcells_zero_made (n : Nat) : (madeCells #[.int .i64 0, .int .i64 0, .int .i64 0, .int .i64 0, .bool false] (n * 5)).toList = tcells (List.replicate n Tk.zero) := by
  apply List.ext_getElem?
  intro i
  by_cases hi : i < n * 5
  · have h1 := tcells_at (List.replicate n Tk.zero) (i / 5) Tk.zero (by rw [List.getElem?_replicate, if_pos (by omega)]) (i % 5) (by omega)
    rw [show i / 5 * 5 + i % 5 = i from by omega] at h1
    rw [h1]
    have hm : i % 5 < 5 := by omega
    simp only [madeCells, Array.toList_map, List.getElem?_map]
    rw [Array.getElem?_toList, Array.getElem?_range, if_pos hi]
    simp only [Option.map_some]
    show some (_[i % 5]!) = _
    generalize i % 5 = m at hm
    match m, hm with
    | 0, _ => rfl
    | 1, _ => rfl
    | 2, _ => rfl
    | 3, _ => rfl
    | 4, _ => rfl
  · rw [List.getElem?_eq_none (by simp [madeCells]; omega), List.getElem?_eq_none (by rw [tcells_len, List.length_replicate]; omega)]
/-- A row of the call's own, from block B on, that holds the tasks ts (elements of type e). -/
def OwnT (w : World) (B : Nat) (e : TypeId) (A : Option Addr) (n c : Nat) (ts : List Tk) : Prop :=
  ts.length = n ∧ w.ownsRow B e 5 (.slice A n c) n (tcells ts)
section
variable {w w' : World} {B : Nat} {e : TypeId} {A : Option Addr} {n c : Nat} {ts : List Tk}
theorem below_grown {w w' : World} (h : Below w.heap.size w w') (row : Option Nat) : w.grownBy w' row := ⟨h.os, h.tape, h.output, h.size, fun k hk _ => h.block k hk⟩
theorem OwnT.below (h : OwnT w B e A n c ts) (hb : Below w.heap.size w w') : OwnT w' B e A n c ts :=
  ⟨h.1, h.2.kept (below_grown hb none) (by cases hv : (Value.slice A n c).ownBlock <;> simp)⟩
theorem OwnT.less (h : OwnT w B e A n c ts) {B' : Nat} (hB : B' ≤ B) : OwnT w B' e A n c ts := by
  refine ⟨h.1, h.2.1, ?_⟩
  rcases h.2.2 with hn | ⟨g, cap, cur, hv, hb, rest⟩
  · exact .inl hn
  · exact .inr ⟨g, cap, cur, hv, by omega, rest⟩
theorem OwnT.nil_ (w : World) (B : Nat) (e : TypeId) : OwnT w B e none 0 0 [] := ⟨rfl, World.ownsRow_nil _ _ _ _⟩
/-- Where there is an element, the row has its block. -/
theorem OwnT.form (h : OwnT w B e A n c ts) (hn : 0 < n) : ∃ g, A = some ⟨g, 0, none⟩ ∧ B ≤ g ∧ g < w.heap.size := by
  rcases h.2.2 with ⟨_, h0⟩ | ⟨g, cap, cur, hv, hb, hg, _⟩
  · omega
  · have hA : A = some ⟨g, 0, none⟩ := by injection hv
    exact ⟨g, hA, hb, (Array.getElem?_eq_some_iff.1 hg).1⟩
theorem OwnT.at_ {g : Nat} (h : OwnT w B e (some ⟨g, 0, none⟩) n c ts) {k : Nat} {t : Tk} (ht : ts[k]? = some t) : TkAt w g (k * 5) t := by
  have hk : k < n := by have := lt_of_at ht; have := h.1; omega
  have f : ∀ j, j < 5 → w.cell? ⟨g, k * 5 + j, none⟩ = t.cells[j]? := fun j hj => by rw [h.2.cellAt _ (by omega), tcells_at ts k t ht j hj]
  exact ⟨f 0 (by omega), f 1 (by omega), f 2 (by omega), f 3 (by omega), f 4 (by omega)⟩
theorem OwnT.free {g : Nat} (h : OwnT w B e (some ⟨g, 0, none⟩) n c ts) (j : Nat) : w.frozen? ⟨g, j, none⟩ = false := h.2.frozenAt j
theorem OwnT.isTs (h : OwnT w B e A n c ts) : IsTs w A n ts := by
  refine ⟨h.1, fun k t ht => ?_⟩
  have hk : k < n := by have := lt_of_at ht; have := h.1; omega
  obtain ⟨g, rfl, _, hg⟩ := h.form (by omega)
  exact ⟨g, 0, rfl, hg, by have := h.at_ ht; rwa [Nat.zero_add]⟩
/-- One cell written. -/
theorem own_set {xs : List Value} {g : Nat} (h : w.ownsRow B e 5 (.slice (some ⟨g, 0, none⟩) n c) n xs) (j : Nat) (u : Value) : (w.setCell ⟨g, j, none⟩ u).ownsRow B e 5 (.slice (some ⟨g, 0, none⟩) n c) n (xs.set j u) := (h.stored j u).1
/-- A whole task written at place k. -/
theorem OwnT.put {g : Nat} (h : OwnT w B e (some ⟨g, 0, none⟩) n c ts) {k : Nat} (hk : k < n) (t : Tk) :
    OwnT (((((w.setCell ⟨g, k * 5, none⟩ (.int .i64 t.low)).setCell ⟨g, k * 5 + 1, none⟩ (.int .i64 t.high)).setCell ⟨g, k * 5 + 2, none⟩ (.int .i64 t.due)).setCell ⟨g, k * 5 + 3, none⟩ (.int .i64 t.every)).setCell ⟨g, k * 5 + 4, none⟩ (.bool t.crit)) B e (some ⟨g, 0, none⟩) n c (ts.set k t) := by
  refine ⟨by rw [List.length_set]; exact h.1, ?_⟩
  rw [← setT_tcells ts k t (by have := h.1; omega)]
  exact own_set (own_set (own_set (own_set (own_set h.2 _ _) _ _) _ _) _ _) _ _
theorem below_put {w0 : World} {B : Nat} (hb : Below B w0 w) {g k : Nat} (hg : B ≤ g) (t : Tk) :
    Below B w0 (((((w.setCell ⟨g, k * 5, none⟩ (.int .i64 t.low)).setCell ⟨g, k * 5 + 1, none⟩ (.int .i64 t.high)).setCell ⟨g, k * 5 + 2, none⟩ (.int .i64 t.due)).setCell ⟨g, k * 5 + 3, none⟩ (.int .i64 t.every)).setCell ⟨g, k * 5 + 4, none⟩ (.bool t.crit)) :=
  ((((hb.setCell (p := ⟨g, k * 5, none⟩) hg _).setCell (p := ⟨g, k * 5 + 1, none⟩) hg _).setCell (p := ⟨g, k * 5 + 2, none⟩) hg _).setCell (p := ⟨g, k * 5 + 3, none⟩) hg _).setCell (p := ⟨g, k * 5 + 4, none⟩) hg _
end
end Go.Proofs.YtncpnjnmljobgaaDoor
