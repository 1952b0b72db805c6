/-
  Words on what is drawn.
-/
import Derived.Test.YtncpnjnmljobgaaDoorDraw
namespace Go.Proofs.YtncpnjnmljobgaaDoor
set_option maxRecDepth 100000
open Go.RowKit
theorem gcell {W w1 : World} {g : Nat} (h : W.grownBy w1 (some g)) : (∀ b o, b < W.heap.size → b ≠ g → w1.cell? ⟨b, o, none⟩ = W.cell? ⟨b, o, none⟩) ∧ (∀ b o, b < W.heap.size → b ≠ g → w1.frozen? ⟨b, o, none⟩ = W.frozen? ⟨b, o, none⟩) :=
  ⟨fun b _ hb hn => World.cell?_of_block (h.block b hb (by simp; exact hn)), fun b _ hb hn => World.frozen?_of_block (h.block b hb (by simp; exact hn))⟩
/-- A drawn value of the form F. -/
def DrawnV (w : World) (g : Nat) (A : Option Addr) (n c : Nat) (p q : Int) (F : Value → Prop) (r : Ending) (w' : World) : Prop :=
  ∃ v : Value, F v ∧ r = .returned v ∧ w.grownBy w' (some g) ∧ ∃ p' : Int, p ≤ p' ∧ p' ≤ q ∧ Rd w' g A n c p'
/-- A value of the form F; nothing that was there has turned. -/
def GotV (w : World) (F : Value → Prop) (r : Ending) (w' : World) : Prop := ∃ v : Value, F v ∧ r = .returned v ∧ Below w.heap.size w w'
def ShareV (v : Value) : Prop := ∃ a b : Int, v = .agg #[.int .i64 a, .int .i64 b]
def TaskV (v : Value) : Prop := ∃ (l h d e : Int) (c : Bool), v = .agg #[.int .i64 l, .int .i64 h, .int .i64 d, .int .i64 e, .bool c]
def PairV (v : Value) : Prop := ∃ a b : Int, v = .tuple #[.int .i64 a, .int .i64 b]
/-- What holds behind the opening of a source holds of the whole. -/
theorem below_src {w w1 w2 : World} {g : Nat} (hb : Below w.heap.size w w1) (hg : w.heap.size ≤ g) (h : w1.grownBy w2 (some g)) : Below w.heap.size w w2 := hb.grown h hb.size (fun k e => by injection e with e; omega)
def anyI : Int → Prop := fun _ => True
theorem all_any (xs : List Int) : ∀ x ∈ xs, anyI x := fun _ _ => trivial
theorem Rd.other {w : World} {g b j : Nat} {A : Option Addr} {n c : Nat} {p : Int} (h : Rd w g A n c p) (hb : g ≤ b) (hn : b ≠ g) (u : Value) : Rd (w.setCell ⟨b, j, none⟩ u) g A n c p := by
  refine ⟨(World.cell?_setCell_other w ⟨b, j, none⟩ ⟨g, 0, none⟩ _ (by intro e; injection e; omega)).trans h.1, (World.cell?_setCell_other w ⟨b, j, none⟩ ⟨g, 1, none⟩ _ (by intro e; injection e; omega)).trans h.2.1, by simp [h.2.2.1], fun k hk => ?_⟩
  obtain ⟨b', o, x, e, hbg, hc, h0, h1⟩ := h.2.2.2 k hk
  exact ⟨b', o, x, e, hbg, (World.cell?_setCell_other w ⟨b, j, none⟩ ⟨b', o + k, none⟩ _ (by intro e; injection e; omega)).trans hc, h0, h1⟩
theorem grown_at {w w' : World} {g b j : Nat} (h : w.grownBy w' (some g)) (hb : w.heap.size ≤ b) (u : Value) : w.grownBy (w'.setCell ⟨b, j, none⟩ u) (some g) := by
  refine ⟨h.os, h.tape, h.output, by simp [World.setCell]; exact h.size, fun i hi hn => ?_⟩
  rw [Below.heap_setCell _ _ _ _ (by show i ≠ b; omega)]
  exact h.block i hi hn
/-- A boxed task behind what only counts in the source. -/
theorem box5 {w w' : World} {g : Nat} {T : TypeId} {u0 u1 u2 u3 u4 : Value} {o : Obj} (h : ((w.alloc (.cells #[u0, u1, u2, u3, u4] T)).alloc o).grownBy w' (some g)) (hn : w.heap.size ≠ g) :
    w'.cell? ⟨w.heap.size, 0, none⟩ = some u0 ∧ w'.cell? ⟨w.heap.size, 1, none⟩ = some u1 ∧ w'.cell? ⟨w.heap.size, 2, none⟩ = some u2 ∧ w'.cell? ⟨w.heap.size, 3, none⟩ = some u3 ∧ w'.cell? ⟨w.heap.size, 4, none⟩ = some u4 := by
  have h1 : ∀ j, w'.cell? ⟨w.heap.size, j, none⟩ = (w.alloc (.cells #[u0, u1, u2, u3, u4] T)).cell? ⟨w.heap.size, j, none⟩ := fun j => ((gcell h).1 w.heap.size j (by simp; omega) hn).trans ((bcell (below_alloc o)).1 w.heap.size j (by simp))
  exact ⟨(h1 0).trans (by simp), (h1 1).trans (by simp), (h1 2).trans (by simp), (h1 3).trans (by simp), (h1 4).trans (by simp)⟩
theorem grown_undrew {w w' : World} {r : Option Nat} (h : w.drew.grownBy w' r) : w.grownBy w' r := ⟨h.os, h.tape, h.output, h.size, h.block⟩
/-- Block g is just the cells cs. -/
def Blk (w : World) (g : Nat) (t : TypeId) (cs : Array Value) : Prop := w.heap[g]? = some (.cells cs t (0, 0))
theorem Blk.lt {w : World} {g : Nat} {t : TypeId} {cs : Array Value} (h : Blk w g t cs) : g < w.heap.size := by
  rcases Nat.lt_or_ge g w.heap.size with hlt | hge
  · exact hlt
  · unfold Blk at h; rw [Array.getElem?_eq_none hge] at h; cases h
theorem Blk.cell {w : World} {g : Nat} {t : TypeId} {cs : Array Value} (h : Blk w g t cs) (i : Nat) : w.cell? ⟨g, i, none⟩ = cs[i]? := cell_of_row w g i cs t (0, 0) h
theorem Blk.frozen {w : World} {g : Nat} {t : TypeId} {cs : Array Value} (h : Blk w g t cs) (i : Nat) : w.frozen? ⟨g, i, none⟩ = false := by
  unfold Blk at h
  simp [World.frozen?, h]
theorem Blk.new (w : World) (t : TypeId) (cs : Array Value) : Blk (w.alloc (.cells cs t)) w.heap.size t cs := heap_alloc_new w _
theorem Blk.set_ {w : World} {g : Nat} {t : TypeId} {cs : Array Value} (h : Blk w g t cs) (i : Nat) (u : Value) : Blk (w.setCell ⟨g, i, none⟩ u) g t (cs.setIfInBounds i u) := by
  unfold Blk at h ⊢
  simp [World.setCell, Array.getElem?_modify, h]
theorem Blk.grown {w w' : World} {g : Nat} {t : TypeId} {cs : Array Value} {row : Option Nat} (h : Blk w g t cs) (hb : w.grownBy w' row) (hg : some g ≠ row) : Blk w' g t cs := (hb.block g h.lt hg).trans h
theorem Blk.five {w : World} {g : Nat} {t : TypeId} {u0 u1 u2 u3 u4 : Value} (h : Blk w g t #[u0, u1, u2, u3, u4]) :
    w.cell? ⟨g, 0, none⟩ = some u0 ∧ w.cell? ⟨g, 1, none⟩ = some u1 ∧ w.cell? ⟨g, 2, none⟩ = some u2 ∧ w.cell? ⟨g, 3, none⟩ = some u3 ∧ w.cell? ⟨g, 4, none⟩ = some u4 :=
  ⟨h.cell 0, h.cell 1, h.cell 2, h.cell 3, h.cell 4⟩
/-- A task in the making, in block b, beside the source g. -/
def Tst (w0 : World) (g : Nat) (A : Option Addr) (n c : Nat) (p q : Int) (b T : Nat) (ev : Int) (wx : World) : Prop :=
  ∃ (l h d : Int) (cr : Bool) (p' : Int), 0 ≤ h ∧ h ≤ 1000 ∧ Blk wx b T #[.int .i64 l, .int .i64 h, .int .i64 d, .int .i64 ev, .bool cr] ∧ w0.grownBy wx (some g) ∧ Rd wx g A n c p' ∧ p ≤ p' ∧ p' ≤ q
end Go.Proofs.YtncpnjnmljobgaaDoor
