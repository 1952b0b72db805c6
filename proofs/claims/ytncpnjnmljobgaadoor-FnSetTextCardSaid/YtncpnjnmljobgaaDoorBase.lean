/-
  Words for memory: a slice that reads as tasks; what a call leaves.
-/
import Derived.Test.YtncpnjnmljobgaaDoorMath
import Derived.WalkKit
import Derived.WalkSpells
import Derived.WalkLawsBesides
import Derived.Deep.QuietTactic
import Derived.BigQuiet
import Derived.Handy
import Derived.Lib.Hide
import Derived.Deep.RegionHeld3
import Derived.StillTailTactics
import Derived.Deep.RegionWith
namespace Go.Proofs.YtncpnjnmljobgaaDoor
set_option maxRecDepth 100000
open Go.RowKit
/-- The call hands back v; nothing that was there has turned. -/
def Ret (w : World) (v : Value) (r : Ending) (w' : World) : Prop := r = .returned v ∧ Below w.heap.size w w'
theorem ret_bool {a b : Bool} (h : a = b) : Ending.returned (.bool a) = .returned (.bool b) := by rw [h]
theorem ret_int {k : IntKind} {a b : Int} (h : a = b) : Ending.returned (.int k a) = .returned (.int k b) := by rw [h]
theorem ret_val {a b : Value} (h : a = b) : Ending.returned a = .returned b := by rw [h]
def Tk.val (t : Tk) : Value := .agg #[.int .i64 t.low, .int .i64 t.high, .int .i64 t.due, .int .i64 t.every, .bool t.crit]
def TkAt (w : World) (b o : Nat) (t : Tk) : Prop :=
  w.cell? ⟨b, o, none⟩ = some (.int .i64 t.low) ∧ w.cell? ⟨b, o + 1, none⟩ = some (.int .i64 t.high) ∧ w.cell? ⟨b, o + 2, none⟩ = some (.int .i64 t.due) ∧
  w.cell? ⟨b, o + 3, none⟩ = some (.int .i64 t.every) ∧ w.cell? ⟨b, o + 4, none⟩ = some (.bool t.crit)
/-- The slice value '.slice A n c' reads as the tasks ts, in blocks that are there. -/
def IsTs (w : World) (A : Option Addr) (n : Nat) (ts : List Tk) : Prop :=
  ts.length = n ∧ ∀ (k : Nat) (t : Tk), ts[k]? = some t → ∃ b o, A = some ⟨b, o, none⟩ ∧ b < w.heap.size ∧ TkAt w b (o + k * 5) t
theorem TkAt.keep {w w' : World} {b o B : Nat} {t : Tk} (h : TkAt w b o t) (hk : Below B w w') (hb : b < B) : TkAt w' b o t := by
  obtain ⟨h0, h1, h2, h3, h4⟩ := h
  refine ⟨?_, ?_, ?_, ?_, ?_⟩ <;> rw [hk.cell (by exact hb)] <;> assumption
theorem IsTs.below {w w' : World} {A : Option Addr} {n : Nat} {ts : List Tk} (h : IsTs w A n ts) (hk : Below w.heap.size w w') : IsTs w' A n ts :=
  ⟨h.1, fun k t ht => by
    obtain ⟨b, o, e, hb, hc⟩ := h.2 k t ht
    exact ⟨b, o, e, Nat.lt_of_lt_of_le hb hk.size, hc.keep hk hb⟩⟩
/-- Two steps, each of which only makes. -/
theorem below2 {w w1 w2 : World} (h : Below w.heap.size w w1) (h' : Below w1.heap.size w1 w2) : Below w.heap.size w w2 := h.trans (h'.mono h.size)
theorem below_alloc {w : World} (o : Obj) : Below w.heap.size w (w.alloc o) := (Below.refl _ _).alloc (Nat.le_refl _) o
theorem below_drewN {B : Nat} {a w : World} (h : Below B a w) (n : Nat) : Below B a (w.drewN n) := ⟨h.os, h.tape, h.output, h.size, h.block⟩
theorem bcell {W w1 : World} (hb : Below W.heap.size W w1) : (∀ b o, b < W.heap.size → w1.cell? ⟨b, o, none⟩ = W.cell? ⟨b, o, none⟩) ∧ (∀ b o, b < W.heap.size → w1.frozen? ⟨b, o, none⟩ = W.frozen? ⟨b, o, none⟩) :=
  ⟨fun b o h => hb.cell (p := ⟨b, o, none⟩) h, fun b o h => hb.frozen (p := ⟨b, o, none⟩) h⟩
theorem lt1 {w w1 : World} {o : Obj} (hb : Below (w.alloc o).heap.size (w.alloc o) w1) : w.heap.size < w1.heap.size := by
  have := hb.size; simp at this; omega
theorem lt2 {w w1 : World} {o o' : Obj} (hb : Below ((w.alloc o).alloc o').heap.size ((w.alloc o).alloc o') w1) : w.heap.size < w1.heap.size ∧ w.heap.size + 1 < w1.heap.size := by
  have := hb.size; simp at this; omega
theorem lt3 {w w1 : World} {o o' o2 : Obj} (hb : Below (((w.alloc o).alloc o').alloc o2).heap.size (((w.alloc o).alloc o').alloc o2) w1) : w.heap.size < w1.heap.size ∧ w.heap.size + 1 < w1.heap.size ∧ w.heap.size + 1 + 1 < w1.heap.size := by
  have := hb.size; simp at this; omega
/-- The slice value '.slice A n c' reads as n bytes. -/
def IsBytes (w : World) (A : Option Addr) (n c : Nat) : Prop :=
  (n ≤ c ∧ c ≤ maxLen) ∧ ∀ k : Nat, k < n → ∃ b o, ∃ x : Int, A = some ⟨b, o, none⟩ ∧ b < w.heap.size ∧ w.cell? ⟨b, o + k, none⟩ = some (.int .u8 x) ∧ 0 ≤ x ∧ x ≤ 255
theorem IsBytes.below {w w' : World} {A : Option Addr} {n c : Nat} (h : IsBytes w A n c) (hk : Below w.heap.size w w') : IsBytes w' A n c :=
  ⟨h.1, fun k hlt => by
    obtain ⟨b, o, x, e, hb, hc, h0, h1⟩ := h.2 k hlt
    exact ⟨b, o, x, e, Nat.lt_of_lt_of_le hb hk.size, ((bcell hk).1 b (o + k) hb).trans hc, h0, h1⟩⟩
/-- A block of two cells, just made, behind what only makes. -/
theorem box2 {W w' : World} {T : TypeId} {u0 u1 : Value} (hb : Below (W.alloc (.cells #[u0, u1] T)).heap.size (W.alloc (.cells #[u0, u1] T)) w') :
    w'.cell? ⟨W.heap.size, 0, none⟩ = some u0 ∧ w'.cell? ⟨W.heap.size, 1, none⟩ = some u1 ∧ W.heap.size < w'.heap.size :=
  ⟨((bcell hb).1 _ 0 (by simp)).trans (by simp), ((bcell hb).1 _ 1 (by simp)).trans (by simp), lt1 hb⟩
theorem kept {W w' : World} {b o : Nat} {u : Value} (h : W.cell? ⟨b, o, none⟩ = some u) (hb : Below W.heap.size W w') (hlt : b < W.heap.size) : w'.cell? ⟨b, o, none⟩ = some u := ((bcell hb).1 b o hlt).trans h
/-- Five facts on one block. -/
def Five (w : World) (b : Nat) (u0 u1 u2 u3 u4 : Value) : Prop :=
  w.cell? ⟨b, 0, none⟩ = some u0 ∧ w.cell? ⟨b, 1, none⟩ = some u1 ∧ w.cell? ⟨b, 2, none⟩ = some u2 ∧ w.cell? ⟨b, 3, none⟩ = some u3 ∧ w.cell? ⟨b, 4, none⟩ = some u4 ∧ b < w.heap.size
theorem Five.new (w : World) (T : TypeId) (u0 u1 u2 u3 u4 : Value) : Five (w.alloc (.cells #[u0, u1, u2, u3, u4] T)) w.heap.size u0 u1 u2 u3 u4 := by
  refine ⟨?_, ?_, ?_, ?_, ?_, ?_⟩ <;> simp
theorem Five.below {w w' : World} {b : Nat} {u0 u1 u2 u3 u4 : Value} (h : Five w b u0 u1 u2 u3 u4) (hb : Below w.heap.size w w') : Five w' b u0 u1 u2 u3 u4 :=
  ⟨kept h.1 hb h.2.2.2.2.2, kept h.2.1 hb h.2.2.2.2.2, kept h.2.2.1 hb h.2.2.2.2.2, kept h.2.2.2.1 hb h.2.2.2.2.2, kept h.2.2.2.2.1 hb h.2.2.2.2.2, Nat.lt_of_lt_of_le h.2.2.2.2.2 hb.size⟩
theorem below_undrew {w w' : World} (h : Below w.drew.heap.size w.drew w') : Below w.heap.size w w' := ⟨h.os, h.tape, h.output, h.size, h.block⟩
/-- Two blocks of two cells, just made, behind what only makes. -/
theorem box22 {W w' : World} {T T' : TypeId} {u0 u1 u2 u3 : Value} (hb : Below ((W.alloc (.cells #[u0, u1] T)).alloc (.cells #[u2, u3] T')).heap.size ((W.alloc (.cells #[u0, u1] T)).alloc (.cells #[u2, u3] T')) w') :
    (w'.cell? ⟨W.heap.size, 0, none⟩ = some u0 ∧ w'.cell? ⟨W.heap.size, 1, none⟩ = some u1) ∧ (w'.cell? ⟨W.heap.size + 1, 0, none⟩ = some u2 ∧ w'.cell? ⟨W.heap.size + 1, 1, none⟩ = some u3) := by
  have h1 := box2 (below2 (below_alloc (.cells #[u2, u3] T')) hb)
  have h2 := box2 hb
  rw [World.size_alloc] at h2
  exact ⟨⟨h1.1, h1.2.1⟩, h2.1, h2.2.1⟩
/-- Two shares in the blocks B and B + 1. -/
def Two (w : World) (B : Nat) (a b c d : Int) : Prop :=
  w.cell? ⟨B, 0, none⟩ = some (.int .i64 a) ∧ w.cell? ⟨B, 1, none⟩ = some (.int .i64 b) ∧ w.cell? ⟨B + 1, 0, none⟩ = some (.int .i64 c) ∧ w.cell? ⟨B + 1, 1, none⟩ = some (.int .i64 d) ∧ B < w.heap.size ∧ B + 1 < w.heap.size
theorem Two.new (W : World) (T T' : TypeId) (a b c d : Int) : Two ((W.alloc (.cells #[.int .i64 a, .int .i64 b] T)).alloc (.cells #[.int .i64 c, .int .i64 d] T')) W.heap.size a b c d := by
  obtain ⟨⟨h0, h1⟩, h2, h3⟩ := box22 (Below.refl _ ((W.alloc (.cells #[.int .i64 a, .int .i64 b] T)).alloc (.cells #[.int .i64 c, .int .i64 d] T')))
  exact ⟨h0, h1, h2, h3, by simp; omega, by simp⟩
theorem Two.below {w w' : World} {B : Nat} {a b c d : Int} (h : Two w B a b c d) (hb : Below w.heap.size w w') : Two w' B a b c d :=
  ⟨kept h.1 hb h.2.2.2.2.1, kept h.2.1 hb h.2.2.2.2.1, kept h.2.2.1 hb h.2.2.2.2.2, kept h.2.2.2.1 hb h.2.2.2.2.2, Nat.lt_of_lt_of_le h.2.2.2.2.1 hb.size, Nat.lt_of_lt_of_le h.2.2.2.2.2 hb.size⟩
end Go.Proofs.YtncpnjnmljobgaaDoor
