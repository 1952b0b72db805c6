/-
  The walks of FnExactAddShares and FnExactCompareShares.
-/
import Derived.Test.YtkgaimagkjpfcaaWShare
import Derived.Deep.DeepCutAuto
namespace Go.Proofs.Ytkgaimagkjpfcaa
open Go.RowKit
theorem cellLt {w : World} {a : Addr} {v : Value} (h : w.cell? a = some v) : a.block < w.heap.size := by
  rcases Nat.lt_or_ge a.block w.heap.size with hlt | hge
  · exact hlt
  · simp [World.cell?, Array.getElem?_eq_none hge] at h
/-- A world in which two shares lie in the blocks n and n + 1. -/
def TwoSh (w : World) (n : Nat) (a b c d : Int) : Prop :=
  w.cell? ⟨n, 0, none⟩ = some (.int .i64 a) ∧ w.cell? ⟨n, 1, none⟩ = some (.int .i64 b) ∧ w.cell? ⟨n + 1, 0, none⟩ = some (.int .i64 c) ∧ w.cell? ⟨n + 1, 1, none⟩ = some (.int .i64 d) ∧ n + 1 < w.heap.size
theorem twoSh_new (w : World) (a b c d : Int) (t t' : TypeId) : TwoSh ((w.alloc (.cells #[.int .i64 a, .int .i64 b] t)).alloc (.cells #[.int .i64 c, .int .i64 d] t')) w.heap.size a b c d := by
  have h1 : ∀ o, ((w.alloc (.cells #[.int .i64 a, .int .i64 b] t)).alloc (.cells #[.int .i64 c, .int .i64 d] t')).cell? ⟨w.heap.size, o, none⟩ = (w.alloc (.cells #[.int .i64 a, .int .i64 b] t)).cell? ⟨w.heap.size, o, none⟩ := fun o => (bcell (below_alloc (w := w.alloc (.cells #[.int .i64 a, .int .i64 b] t)) _)).1 _ o (by simp)
  refine ⟨(h1 0).trans (by simp), (h1 1).trans (by simp), ?_, ?_, by simp⟩
  · have := World.cell?_alloc_new (w.alloc (.cells #[.int .i64 a, .int .i64 b] t)) #[.int .i64 c, .int .i64 d] t'
    simp at this ⊢
  · have := World.cell?_alloc_new (w.alloc (.cells #[.int .i64 a, .int .i64 b] t)) #[.int .i64 c, .int .i64 d] t'
    simp at this ⊢
theorem keepS {f : FuncId} {args : Array Value} {W : World} {v : Value} {a b c d : Int} {n : Nat} (h : Calls Try.prog f args W (Ret W v)) (h1 : W.cell? ⟨n, 0, none⟩ = some (.int .i64 a)) (h2 : W.cell? ⟨n, 1, none⟩ = some (.int .i64 b)) (h3 : W.cell? ⟨n + 1, 0, none⟩ = some (.int .i64 c)) (h4 : W.cell? ⟨n + 1, 1, none⟩ = some (.int .i64 d)) :
    Calls Try.prog f args W fun r w' => Ret W v r w' ∧ w'.cell? ⟨n, 0, none⟩ = some (.int .i64 a) ∧ w'.cell? ⟨n, 1, none⟩ = some (.int .i64 b) ∧ w'.cell? ⟨n + 1, 0, none⟩ = some (.int .i64 c) ∧ w'.cell? ⟨n + 1, 1, none⟩ = some (.int .i64 d) :=
  have hn : n + 1 < W.heap.size := cellLt h3
  h.mono fun r w' hr => ⟨hr, ((bcell hr.2).1 n 0 (by omega)).trans h1, ((bcell hr.2).1 n 1 (by omega)).trans h2, ((bcell hr.2).1 (n + 1) 0 hn).trans h3, ((bcell hr.2).1 (n + 1) 1 hn).trans h4⟩
/-- What a statement 'v, ok := F(..)' leaves: a new block with the share, and the answer. -/
def AddLeft (w : World) (N D : Int) (B : Bool) (s5 s6 : Value) (wx : World) : Prop :=
  ∃ g : Nat, s5 = .pointer (some ⟨g, 0, none⟩) ∧ s6 = .bool B ∧ Below w.heap.size w wx ∧ w.heap.size ≤ g ∧ g < wx.heap.size ∧ wx.cell? ⟨g, 0, none⟩ = some (.int .i64 N) ∧ wx.cell? ⟨g, 1, none⟩ = some (.int .i64 D)

set_option maxHeartbeats 1000000 in
theorem w_FnExactCompareShares (a b c d : Int) (w : World) : Calls Try.prog 3 #[.agg #[.int .i64 a, .int .i64 b], .agg #[.int .i64 c, .int .i64 d]] w (Ret w (.bool true)) := by
  go_enter Try.func3, Try.ntmps3
  go_upto_region 1 with fail
  have hT := twoSh_new w a b c d 23 23
  have hB := below2 (below_alloc (w := w) (.cells #[.int .i64 a, .int .i64 b] 23)) (below_alloc (.cells #[.int .i64 c, .int .i64 d] 23))
  generalize ((w.alloc (.cells #[.int .i64 a, .int .i64 b] 23)).alloc (.cells #[.int .i64 c, .int .i64 d] 23)) = W at *
  generalize hn0 : w.heap.size = n at *
  have HN := Lib.hid hn0
  clear hn0
  obtain ⟨h1, h2, h3, h4, hn⟩ := hT
  have e1 := World.new_ne W _ h1
  have e2 := World.new_ne W _ h2
  have e3 := World.new_ne W _ h3
  have e4 := World.new_ne W _ h4
  go_region_held3 (fun w' => w'.cell? ⟨n, 0, none⟩ = some (.int .i64 a) ∧ w'.cell? ⟨n, 1, none⟩ = some (.int .i64 b) ∧ w'.cell? ⟨n + 1, 0, none⟩ = some (.int .i64 c) ∧ w'.cell? ⟨n + 1, 1, none⟩ = some (.int .i64 d)) (go_keep)
    (first
    | (go_at_call_of 16 (Value.agg #[Value.int IntKind.i64 a, Value.int IntKind.i64 b]); go_must (refine Calls.mono (keepS (n := n) (a := a) (b := b) (c := c) (d := d) (c_toShare _ _ _) ?_ ?_ ?_ ?_) ?_; iterate 4 (first | (with_reducible assumption) | exact h1 | exact h2 | exact h3 | exact h4 | go_keep)); rintro r w1 ⟨⟨rfl, hb1⟩, x1, x2, x3, x4⟩; have e1 := World.new_ne w1 _ x1; have e2 := World.new_ne w1 _ x2; have e3 := World.new_ne w1 _ x3; have e4 := World.new_ne w1 _ x4; obtain ⟨hc1, hf1⟩ := bcell hb1; have hz1 := hb1.size; (try simp at hz1); (try have hz1a := Nat.lt_of_succ_le hz1))
    | (go_at_call_of 16 (Value.agg #[Value.int IntKind.i64 c, Value.int IntKind.i64 d]); go_must (refine Calls.mono (keepS (n := n) (a := a) (b := b) (c := c) (d := d) (c_toShare _ _ _) ?_ ?_ ?_ ?_) ?_; iterate 4 (first | (with_reducible assumption) | exact h1 | exact h2 | exact h3 | exact h4 | go_keep)); rintro r w2 ⟨⟨rfl, hb2⟩, x1, x2, x3, x4⟩; have e1 := World.new_ne w2 _ x1; have e2 := World.new_ne w2 _ x2; have e3 := World.new_ne w2 _ x3; have e4 := World.new_ne w2 _ x4; obtain ⟨hc2, hf2⟩ := bcell hb2; have hz2 := hb2.size; (try simp at hz2); (try have hz2a := Nat.lt_of_succ_le hz2); (try have hy2 := Nat.lt_of_lt_of_le hz1a hz2))
    | (go_at_call 15; go_must (refine Calls.mono (keepS (n := n) (a := a) (b := b) (c := c) (d := d) (c_spec_CompareShares _ _ _ _ _) ?_ ?_ ?_ ?_) ?_; iterate 4 (first | (with_reducible assumption) | exact h1 | exact h2 | exact h3 | exact h4 | go_keep)); rintro r w3 ⟨⟨rfl, hb3⟩, x1, x2, x3, x4⟩; have e1 := World.new_ne w3 _ x1; have e2 := World.new_ne w3 _ x2; have e3 := World.new_ne w3 _ x3; have e4 := World.new_ne w3 _ x4; obtain ⟨hc3, hf3⟩ := bcell hb3; have hz3 := hb3.size; (try simp at hz3); (try have hz3a := Nat.lt_of_succ_le hz3)))
  have hB' : Below W.heap.size W w3 := below2 (below_undrew hb1) (below2 hb2 hb3)
  have HW := Lib.hid (hB.trans (hB'.mono (by omega)))
  have hs := hB'.size
  have hn' : n + 1 < w3.heap.size := by omega
  have y1 := ((bcell hB').1 n 0 (by omega)).trans h1
  have y2 := ((bcell hB').1 n 1 (by omega)).trans h2
  have y3 := ((bcell hB').1 (n + 1) 0 hn).trans h3
  have y4 := ((bcell hB').1 (n + 1) 1 hn).trans h4
  clear h1 h2 h3 h4 e1 e2 e3 e4 x1 x2 x3 x4 hc1 hf1 hc2 hf2 hc3 hf3 hB' hB hb1 hb2 hb3 hn hs hz1 hz2 hz3
  have h1 := y1
  have h2 := y2
  have h3 := y3
  have h4 := y4
  clear y1 y2 y3 y4
  obtain ⟨wo, rfl⟩ : ∃ wo : World, wo = w3 := ⟨_, rfl⟩
  have e1 := World.new_ne wo _ h1
  have e2 := World.new_ne wo _ h2
  have e3 := World.new_ne wo _ h3
  have e4 := World.new_ne wo _ h4
  go_upto_region 2 with fail
  go_region_held3 (fun w' => w'.cell? ⟨n, 0, none⟩ = some (.int .i64 a) ∧ w'.cell? ⟨n, 1, none⟩ = some (.int .i64 b) ∧ w'.cell? ⟨n + 1, 0, none⟩ = some (.int .i64 c) ∧ w'.cell? ⟨n + 1, 1, none⟩ = some (.int .i64 d)) (go_keep)
    (first
    | (go_at_call_of 16 (Value.agg #[Value.int IntKind.i64 a, Value.int IntKind.i64 b]); go_must (refine Calls.mono (keepS (n := n) (a := a) (b := b) (c := c) (d := d) (c_toShare _ _ _) ?_ ?_ ?_ ?_) ?_; iterate 4 (first | (with_reducible assumption) | exact h1 | exact h2 | exact h3 | exact h4 | go_keep)); rintro r w1 ⟨⟨rfl, hb1⟩, x1, x2, x3, x4⟩; have e1 := World.new_ne w1 _ x1; have e2 := World.new_ne w1 _ x2; have e3 := World.new_ne w1 _ x3; have e4 := World.new_ne w1 _ x4; obtain ⟨hc1, hf1⟩ := bcell hb1; have hz1 := hb1.size; (try simp at hz1); (try have hz1a := Nat.lt_of_succ_le hz1))
    | (go_at_call_of 16 (Value.agg #[Value.int IntKind.i64 c, Value.int IntKind.i64 d]); go_must (refine Calls.mono (keepS (n := n) (a := a) (b := b) (c := c) (d := d) (c_toShare _ _ _) ?_ ?_ ?_ ?_) ?_; iterate 4 (first | (with_reducible assumption) | exact h1 | exact h2 | exact h3 | exact h4 | go_keep)); rintro r w2 ⟨⟨rfl, hb2⟩, x1, x2, x3, x4⟩; have e1 := World.new_ne w2 _ x1; have e2 := World.new_ne w2 _ x2; have e3 := World.new_ne w2 _ x3; have e4 := World.new_ne w2 _ x4; obtain ⟨hc2, hf2⟩ := bcell hb2; have hz2 := hb2.size; (try simp at hz2); (try have hz2a := Nat.lt_of_succ_le hz2); (try have hy2 := Nat.lt_of_lt_of_le hz1a hz2))
    | (go_at_call 17; go_must (refine Calls.mono (keepS (n := n) (a := a) (b := b) (c := c) (d := d) (c_impl_CompareShares _ _ _ _ _) ?_ ?_ ?_ ?_) ?_; iterate 4 (first | (with_reducible assumption) | exact h1 | exact h2 | exact h3 | exact h4 | go_keep)); rintro r w3 ⟨⟨rfl, hb3⟩, x1, x2, x3, x4⟩; have e1 := World.new_ne w3 _ x1; have e2 := World.new_ne w3 _ x2; have e3 := World.new_ne w3 _ x3; have e4 := World.new_ne w3 _ x4; obtain ⟨hc3, hf3⟩ := bcell hb3; have hz3 := hb3.size; (try simp at hz3); (try have hz3a := Nat.lt_of_succ_le hz3)))
  have hB' : Below wo.heap.size wo w3 := below2 (below_undrew hb1) (below2 hb2 hb3)
  have HX := Lib.hid (HW.out.trans (hB'.mono (by omega)))
  clear hB' hb1 hb2 hb3
  go_wp2
  go_ret
  refine ⟨rfl, ?_⟩
  rw [HN.out]
  exact HX.out
end Go.Proofs.Ytkgaimagkjpfcaa
