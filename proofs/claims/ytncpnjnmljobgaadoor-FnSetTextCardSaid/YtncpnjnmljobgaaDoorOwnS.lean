/-
  Rows of the call's own that hold strings.
-/
import Derived.Test.YtncpnjnmljobgaaDoorOwnApp
namespace Go.Proofs.YtncpnjnmljobgaaDoor
set_option maxRecDepth 100000
open Go.RowKit
/-- A row of the call's own that holds the strings xs. -/
def OwnS (w : World) (B : Nat) (e : TypeId) (A : Option Addr) (n c : Nat) (xs : List ByteArray) : Prop :=
  xs.length = n ∧ w.ownsRow B e 1 (.slice A n c) n (xs.map Value.string)
section
variable {w w' w0 : World} {B : Nat} {e : TypeId} {A : Option Addr} {n c : Nat} {xs : List ByteArray}
theorem OwnS.below (h : OwnS w B e A n c xs) (hb : Below w.heap.size w w') : OwnS w' B e A n c xs :=
  ⟨h.1, h.2.kept (below_grown hb none) (by cases hv : (Value.slice A n c).ownBlock <;> simp)⟩
theorem OwnS.less (h : OwnS w B e A n c xs) {B' : Nat} (hB : B' ≤ B) : OwnS w B' e A n c xs := by
  refine ⟨h.1, h.2.1, ?_⟩
  rcases h.2.2 with hn | ⟨g, cap, cur, hv, hb, rest⟩
  · exact .inl hn
  · exact .inr ⟨g, cap, cur, hv, by omega, rest⟩
theorem OwnS.empty (w : World) (hB : B ≤ w.heap.size) : OwnS (w.alloc (.cells #[] e)) B e (some ⟨w.heap.size, 0, none⟩) 0 0 [] :=
  ⟨rfl, World.ownsRow_made w #[] 0 hB (by unfold maxLen; omega) (by simp)⟩
theorem OwnS.form' (h : OwnS w B e A n c xs) : (A = none ∧ n = 0 ∧ c = 0) ∨ ∃ g, A = some ⟨g, 0, none⟩ ∧ g < w.heap.size ∧ B ≤ g ∧ n ≤ c := by
  rcases h.2.2 with ⟨hv, _⟩ | ⟨g, cap, cur, hv, hb, hg, hnc, _⟩
  · injection hv with h1 h2 h3
    exact .inl ⟨h1, h2, h3⟩
  · injection hv with h1 h2 h3
    exact .inr ⟨g, h1, (Array.getElem?_eq_some_iff.1 hg).1, hb, by omega⟩
theorem OwnS.at_ {g : Nat} (h : OwnS w B e (some ⟨g, 0, none⟩) n c xs) {k : Nat} {x : ByteArray} (hx : xs[k]? = some x) : w.cell? ⟨g, k, none⟩ = some (.string x) := by
  have hk : k < n := by
    have h1 := h.1
    have := (List.getElem?_eq_some_iff.1 hx).1
    omega
  rw [h.2.cellAt _ (by omega), List.getElem?_map, hx]
  rfl
theorem OwnS.snoc {v : Value} {x : ByteArray} (hl : xs.length = n) (h : w.ownsRow B e 1 v (n + 1) (xs.map Value.string ++ [.string x])) :
    ∃ A c, v = .slice A (n + 1) c ∧ OwnS w B e A (n + 1) c (xs ++ [x]) := by
  have hx : (xs ++ [x]).map Value.string = xs.map Value.string ++ [.string x] := by simp
  rw [← hx] at h
  have hv : ∃ A c, v = .slice A (n + 1) c := by
    rcases h.2 with ⟨_, h0⟩ | ⟨g, cap, cur, hv, _⟩
    · omega
    · exact ⟨_, _, hv⟩
  obtain ⟨A, c, rfl⟩ := hv
  exact ⟨A, c, rfl, by simp [hl], h⟩
theorem own_below_s (hb : Below B w0 w) (h : OwnS w B e A n c xs) (hg : w.grownBy w' (Value.slice A n c).ownBlock) (hB : B ≤ w.heap.size) : Below B w0 w' := hb.grown hg hB (fun k hk => (h.2.lt k hk).1)
/-- append of one string to a row of the call's own. -/
theorem wpList_append_string {P : Program} {ops : Array Oper} {rest : List Oper} {o : Oper} {a : Act} {Q : Exit → Act → World → Prop} (hgd : o.guard = none) (s x : Operand) (t : TypeId)
    (ho : o.op = .call { callee := .builtin .append, args := #[s, x], argTypes := #[t, t] }) (i : TypeInfo) (ht : P.underlying t = some (.slice e)) (hi : P.info? e = some i)
    (hz : i.zero = some (.string ByteArray.empty)) (hsize : i.size = 1) (hby : i.bytes = 16)
    (hs : a.eval s = .slice A n c) (hown : OwnS w B e A n c xs) (hn : n ≤ 1000000000) (bk : Nat) (y : ByteArray) (hx : a.eval x = .slice (some ⟨bk, 0, none⟩) 1 1)
    (hnews : w.cell? ⟨bk, 0, none⟩ = some (.string y)) (hbase : B ≤ w.heap.size)
    (h : ∀ A' c' w', OwnS w' B e A' (n + 1) c' (xs ++ [y]) → w.grownBy w' (Value.slice A n c).ownBlock → wpList P ops Q rest (a.put o.dst (.slice A' (n + 1) c')) w') : wpList P ops Q (o :: rest) a w := by
  refine wpList_append_own w hgd s x t ho B e i _ 1 16 ht hi hz hsize hby rfl (by omega) (.slice A n c) n (xs.map Value.string) hs hown.2 ⟨bk, 0, none⟩ 1 1 [.string y] hx rfl (fun j u hj => ?_) (fun u hu => ?_) (by unfold maxLen; omega) (by omega) hbase ?_
  · cases j with
    | zero =>
      simp only [List.getElem?_cons_zero, Option.some.injEq] at hj
      subst hj
      rw [add_none']
      exact hnews
    | succ j => simp at hj
  · have : u = .string y := by simpa using hu
    subst this
    rfl
  · intro v' w' hown' hg' _
    obtain ⟨A', c', rfl, ho'⟩ := OwnS.snoc hown.1 hown'
    exact h A' c' w' ho' hg'
end
theorem info_Str : (Tryd.prog.info? 9).map (fun i => (i.zero, i.size, i.bytes)) = some (some (.string ByteArray.empty), 1, 16) := by kernel_rfl
end Go.Proofs.YtncpnjnmljobgaaDoor
