/-
  Rows of the call's own that hold tasks: a task put behind, parts of a row.
-/
import Derived.Test.YtncpnjnmljobgaaDoorOwn
import Derived.Test.YtncpnjnmljobgaaDoorDrawWords
import Derived.Deep.AppendLies
namespace Go.Proofs.YtncpnjnmljobgaaDoor
set_option maxRecDepth 100000
open Go.RowKit
theorem OwnT.snoc {w : World} {B : Nat} {e : TypeId} {v : Value} {n : Nat} {ts : List Tk} {t : Tk} (hl : ts.length = n) (h : w.ownsRow B e 5 v (n + 1) (tcells ts ++ t.cells)) :
    ∃ A c, v = .slice A (n + 1) c ∧ OwnT w B e A (n + 1) c (ts ++ [t]) := by
  have hx : tcells (ts ++ [t]) = tcells ts ++ t.cells := by rw [tcells_append, tcells_cons]; simp [tcells]
  rw [← hx] at h
  have hv : ∃ A c, v = .slice A (n + 1) c := by
    rcases h.2 with ⟨_, h0⟩ | ⟨g, cap, cur, hv, _⟩
    · omega
    · exact ⟨_, _, hv⟩
  obtain ⟨A, c, rfl⟩ := hv
  exact ⟨A, c, rfl, by simp [hl], h⟩
theorem Tk.one (t : Tk) : ∀ u ∈ t.cells, u.oneCell' = true := by
  intro u hu
  simp only [Tk.cells, List.mem_cons, List.not_mem_nil, or_false] at hu
  rcases hu with rfl | rfl | rfl | rfl | rfl <;> rfl
/-- The five cells of a task that was laid last. -/
theorem Tk.news (w : World) (T : TypeId) (t : Tk) : ∀ (j : Nat) (u : Value), t.cells[j]? = some u → (w.alloc (.cells #[.int .i64 t.low, .int .i64 t.high, .int .i64 t.due, .int .i64 t.every, .bool t.crit] T)).cell? ((⟨w.heap.size, 0, none⟩ : Addr).add j) = some u :=
  World.news_of_block (heap_alloc_new w _)
section
variable {w w' w0 : World} {B : Nat} {e : TypeId} {A : Option Addr} {n c : Nat} {ts : List Tk}
/-- append of one task to a row of the call's own. -/
theorem wpList_append_task {P : Program} {ops : Array Oper} {rest : List Oper} {o : Oper} {a : Act} {Q : Exit → Act → World → Prop} (hgd : o.guard = none) (s x : Operand) (t : TypeId)
    (ho : o.op = .call { callee := .builtin .append, args := #[s, x], argTypes := #[t, t] }) (i : TypeInfo) (ht : P.underlying t = some (.slice e)) (hi : P.info? e = some i)
    (hz : i.zero = some (.agg #[.int .i64 0, .int .i64 0, .int .i64 0, .int .i64 0, .bool false])) (hsize : i.size = 5) (hby : i.bytes = 40)
    (hs : a.eval s = .slice A n c) (hown : OwnT w B e A n c ts) (hn : n ≤ 1000000000) (bk : Nat) (tk : Tk) (hx : a.eval x = .slice (some ⟨bk, 0, none⟩) 1 1)
    (hnews : ∀ (j : Nat) (u : Value), tk.cells[j]? = some u → w.cell? ((⟨bk, 0, none⟩ : Addr).add j) = some u) (hbase : B ≤ w.heap.size)
    (h : ∀ A' c' w', OwnT w' B e A' (n + 1) c' (ts ++ [tk]) → w.grownBy w' (Value.slice A n c).ownBlock → wpList P ops Q rest (a.put o.dst (.slice A' (n + 1) c')) w') : wpList P ops Q (o :: rest) a w := by
  refine wpList_append_own w hgd s x t ho B e i _ 5 40 ht hi hz hsize hby rfl (by omega) (.slice A n c) n (tcells ts) hs hown.2 ⟨bk, 0, none⟩ 1 1 tk.cells hx rfl hnews tk.one (by unfold maxLen; omega) (by omega) hbase ?_
  intro v' w' hown' hg' _
  obtain ⟨A', c', rfl, ho'⟩ := OwnT.snoc hown.1 hown'
  exact h A' c' w' ho' hg'
theorem OwnT.grown_g {g : Nat} (h : OwnT w B e A n c ts) (hg : w.grownBy w' (some g)) (hgB : g < B) : OwnT w' B e A n c ts := by
  refine ⟨h.1, h.2.kept hg ?_⟩
  cases hv : (Value.slice A n c).ownBlock with
  | none => exact .inl rfl
  | some k =>
    refine .inr ?_
    have := (h.2.lt k hv).1
    intro he
    injection he with he
    omega
theorem own_below (hb : Below B w0 w) (h : OwnT w B e A n c ts) (hg : w.grownBy w' (Value.slice A n c).ownBlock) (hB : B ≤ w.heap.size) : Below B w0 w' := hb.grown hg hB (fun k hk => (h.2.lt k hk).1)
theorem Rd.own {g : Nat} {A' : Option Addr} {n' c' : Nat} {p : Int} (hr : Rd w g A' n' c' p) (h : OwnT w B e A n c ts) (hg : w.grownBy w' (Value.slice A n c).ownBlock) (hgB : g < B) : Rd w' g A' n' c' p := by
  have hl := hr.lt
  have key : ∀ b, b ≤ g → w'.heap[b]? = w.heap[b]? := fun b hb => hg.block b (by omega) (fun he => by have := (h.2.lt b he.symm).1; omega)
  obtain ⟨h0, h1, h2, h3⟩ := hr
  refine ⟨(World.cell?_of_block (a := ⟨g, 0, none⟩) (key g (Nat.le_refl _))).trans h0, (World.cell?_of_block (a := ⟨g, 1, none⟩) (key g (Nat.le_refl _))).trans h1, (World.frozen?_of_block (a := ⟨g, 1, none⟩) (key g (Nat.le_refl _))).trans h2, fun k hk => ?_⟩
  obtain ⟨b, o, x, e', hbg, hc, r0, r1⟩ := h3 k hk
  exact ⟨b, o, x, e', hbg, (World.cell?_of_block (a := ⟨b, o + k, none⟩) (key b (by omega))).trans hc, r0, r1⟩
/-- A row may turn in its own block, the source in block g. -/
theorem grown_own {w1 : World} {g : Nat} (hb : w0.grownBy w1 (some g)) (h : OwnT w1 B e A n c ts) (hg : w1.grownBy w' (Value.slice A n c).ownBlock) (hB : w0.heap.size ≤ B) : w0.grownBy w' (some g) :=
  ⟨hg.os.trans hb.os, hg.tape.trans hb.tape, hg.output.trans hb.output, Nat.le_trans hb.size hg.size, fun i hi hn => (hg.block i (Nat.lt_of_lt_of_le hi hb.size) (fun he => by have := (h.2.lt i he.symm).1; omega)).trans (hb.block i hi hn)⟩
/-- An empty row of the call's own. -/
theorem OwnT.empty (w : World) (hB : B ≤ w.heap.size) : OwnT (w.alloc (.cells #[] e)) B e (some ⟨w.heap.size, 0, none⟩) 0 0 [] :=
  ⟨rfl, World.ownsRow_made w #[] 0 hB (by unfold maxLen; omega) (by simp)⟩
theorem OwnT.cap (h : OwnT w B e A n c ts) : n ≤ c := by
  rcases h.2.2 with ⟨hv, h0⟩ | ⟨g, cap, cur, hv, hb, hg, hs, hc, _⟩
  · omega
  · injection hv with _ _ e3
    omega
/-- Parts of a list. -/
theorem IsTs.take (h : IsTs w A n ts) {k : Nat} (hk : k ≤ n) : IsTs w A k (ts.take k) :=
  ⟨by rw [List.length_take]; have := h.1; omega, fun j t ht => by
    rw [List.getElem?_take] at ht
    by_cases hj : j < k
    · rw [if_pos hj] at ht; exact h.2 j t ht
    · rw [if_neg hj] at ht; cases ht⟩
theorem IsTs.drop {b o : Nat} (h : IsTs w (some ⟨b, o, none⟩) n ts) {k : Nat} (hk : k ≤ n) : IsTs w (some ⟨b, o + k * 5, none⟩) (n - k) (ts.drop k) :=
  ⟨by rw [List.length_drop]; have := h.1; omega, fun j t ht => by
    rw [List.getElem?_drop] at ht
    obtain ⟨b', o', e, hb, hc⟩ := h.2 (k + j) t ht
    injection e with e
    injection e with e1 e2
    subst e1 e2
    refine ⟨b, o + k * 5, rfl, hb, ?_⟩
    rwa [show o + k * 5 + j * 5 = o + (k + j) * 5 by omega]⟩
theorem IsTs.none_ {c0 : Option Addr} : IsTs w c0 0 [] := ⟨rfl, fun k t ht => by simp at ht⟩
end
end Go.Proofs.YtncpnjnmljobgaaDoor
