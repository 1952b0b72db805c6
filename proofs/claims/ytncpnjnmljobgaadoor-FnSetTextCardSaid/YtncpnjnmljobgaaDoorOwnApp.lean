/-
  Rows of the call's own that hold tasks: a list put behind.
-/
import Derived.Test.YtncpnjnmljobgaaDoorOwnAdd
namespace Go.Proofs.YtncpnjnmljobgaaDoor
set_option maxRecDepth 100000
open Go.RowKit
theorem add_none' {b o k : Nat} : (⟨b, o, none⟩ : Addr).add k = ⟨b, o + k, none⟩ := by
  unfold Addr.add
  split
  · subst_vars; rfl
  · rfl
section
variable {w w' w0 : World} {B : Nat} {e : TypeId} {A : Option Addr} {n c : Nat} {ts : List Tk}
theorem IsTs.cells {b o : Nat} (h : IsTs w (some ⟨b, o, none⟩) n ts) : ∀ (j : Nat) (u : Value), (tcells ts)[j]? = some u → w.cell? ((⟨b, o, none⟩ : Addr).add j) = some u := by
  intro j u hu
  have hj : j < ts.length * 5 := by
    have := (List.getElem?_eq_some_iff.1 hu).1
    rw [tcells_len] at this
    exact this
  obtain ⟨t, ht⟩ := at_of (ts := ts) (k := j / 5) (by omega)
  obtain ⟨b', o', e', _, h0, h1, h2, h3, h4⟩ := h.2 (j / 5) t ht
  injection e' with e'
  injection e' with e1 e2
  subst e1 e2
  have hc := tcells_at ts (j / 5) t ht (j % 5) (by omega)
  rw [show j / 5 * 5 + j % 5 = j by omega, hu] at hc
  rw [add_none']
  have hm : j % 5 = 0 ∨ j % 5 = 1 ∨ j % 5 = 2 ∨ j % 5 = 3 ∨ j % 5 = 4 := by omega
  rcases hm with m | m | m | m | m <;> rw [m] at hc <;> rw [show o + j = o + j / 5 * 5 + j % 5 by omega, m]
  · rw [Nat.add_zero]; exact h0.trans hc.symm
  · exact h1.trans hc.symm
  · exact h2.trans hc.symm
  · exact h3.trans hc.symm
  · exact h4.trans hc.symm
theorem tcells_one (ts : List Tk) : ∀ u ∈ tcells ts, u.oneCell' = true := by
  intro u hu
  unfold tcells at hu
  obtain ⟨t, _, ht⟩ := List.mem_flatMap.1 hu
  exact t.one u ht
theorem OwnT.app {v : Value} {m : Nat} {us : List Tk} (hl : ts.length = n) (hm : us.length = m) (h : w.ownsRow B e 5 v (n + m) (tcells ts ++ tcells us)) : ∃ A c, v = .slice A (n + m) c ∧ OwnT w B e A (n + m) c (ts ++ us) := by
  rw [← tcells_append] at h
  have hv : ∃ A c, v = .slice A (n + m) c := by
    rcases h.2 with ⟨hv, h0⟩ | ⟨g, cap, cur, hv, _⟩
    · exact ⟨none, 0, by rw [h0]; exact hv⟩
    · exact ⟨_, _, hv⟩
  obtain ⟨A, c, rfl⟩ := hv
  exact ⟨A, c, rfl, by rw [List.length_append, hl, hm], h⟩
/-- append of a list of tasks to a row of the call's own. -/
theorem wpList_append_tasks {P : Program} {ops : Array Oper} {rest : List Oper} {o : Oper} {a : Act} {Q : Exit → Act → World → Prop} (hgd : o.guard = none) (s x : Operand) (t : TypeId)
    (ho : o.op = .call { callee := .builtin .append, args := #[s, x], argTypes := #[t, t] }) (i : TypeInfo) (ht : P.underlying t = some (.slice e)) (hi : P.info? e = some i)
    (hz : i.zero = some (.agg #[.int .i64 0, .int .i64 0, .int .i64 0, .int .i64 0, .bool false])) (hsize : i.size = 5) (hby : i.bytes = 40)
    (hs : a.eval s = .slice A n c) (hown : OwnT w B e A n c ts) (b of m c2 : Nat) (us : List Tk) (hx : a.eval x = .slice (some ⟨b, of, none⟩) m c2) (hn : n + m ≤ 1000000000)
    (hu : IsTs w (some ⟨b, of, none⟩) m us) (hbase : B ≤ w.heap.size) (N : Nat) (hN : n + m = N)
    (h : ∀ A' c' w', OwnT w' B e A' N c' (ts ++ us) → w.grownBy w' (Value.slice A n c).ownBlock → wpList P ops Q rest (a.put o.dst (.slice A' N c')) w') : wpList P ops Q (o :: rest) a w := by
  subst hN
  refine wpList_append_own w hgd s x t ho B e i _ 5 40 ht hi hz hsize hby rfl (by omega) (.slice A n c) n (tcells ts) hs hown.2 ⟨b, of, none⟩ m c2 (tcells us) hx (by rw [tcells_len, hu.1]) hu.cells (tcells_one us) (by unfold maxLen; omega) (by omega) hbase ?_
  intro v' w' hown' hg' _
  obtain ⟨A', c', rfl, ho'⟩ := OwnT.app hown.1 hu.1 hown'
  exact h A' c' w' ho' hg'
theorem OwnT.kept_n {row : Option Nat} (h : OwnT w B e A n c ts) (hg : w.grownBy w' row) (hne : ∀ g, (Value.slice A n c).ownBlock = some g → row ≠ some g) : OwnT w' B e A n c ts := by
  refine ⟨h.1, h.2.kept hg ?_⟩
  cases hv : (Value.slice A n c).ownBlock with
  | none => exact .inl rfl
  | some g => exact .inr fun e => hne g hv e.symm
/-- A row beside another one whose base is higher. -/
theorem OwnT.beside {g B2 n2 c2 : Nat} {A2 : Option Addr} {ts2 : List Tk} (h : OwnT w B e (some ⟨g, 0, none⟩) n c ts) (hg : g < B2) (h2 : OwnT w B2 e A2 n2 c2 ts2) (hgr : w.grownBy w' (Value.slice A2 n2 c2).ownBlock) : OwnT w' B e (some ⟨g, 0, none⟩) n c ts := by
  refine h.kept_n hgr fun g' hg' e => ?_
  have e1 : g = g' := by simpa [Value.ownBlock] using hg'
  have := (h2.2.lt g' e).1
  omega
theorem IsTs.beside {b o B2 n2 c2 : Nat} {A2 : Option Addr} {ts2 : List Tk} (h : IsTs w (some ⟨b, o, none⟩) n ts) (hb : b < B2) (h2 : OwnT w B2 e A2 n2 c2 ts2) (hgr : w.grownBy w' (Value.slice A2 n2 c2).ownBlock) : IsTs w' (some ⟨b, o, none⟩) n ts := by
  refine ⟨h.1, fun k t ht => ?_⟩
  obtain ⟨b', o', e', hlt, h0, h1, h2', h3, h4⟩ := h.2 k t ht
  have hbb : b' = b := by injection e' with e'; injection e' with e1; exact e1.symm
  have key : ∀ j, w'.cell? ⟨b', j, none⟩ = w.cell? ⟨b', j, none⟩ := fun j => World.cell?_of_block (a := ⟨b', j, none⟩) (hgr.block b' hlt (fun he => by have := (h2.2.lt b' he.symm).1; omega))
  exact ⟨b', o', e', Nat.lt_of_lt_of_le hlt hgr.size, (key _).trans h0, (key _).trans h1, (key _).trans h2', (key _).trans h3, (key _).trans h4⟩
end
end Go.Proofs.YtncpnjnmljobgaaDoor
