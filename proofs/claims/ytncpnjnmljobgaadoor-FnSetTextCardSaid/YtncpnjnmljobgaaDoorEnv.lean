/-
  What the listed variables and the world's shape give: MaxLen holds some number, the two errors of strconv hold errors.
-/
import Derived.Test.YtncpnjnmljobgaaDoorRows
import Derived.Test.YtncpnjnmljobgaaDoorBase
import Derived.Test.YtncpnjnmljobgaaDoorLayP
import Derived.Lib.SmallJoins
import Derived.Stop.LaidErr
namespace Go.Proofs.YtncpnjnmljobgaaDoor
set_option maxRecDepth 100000
open Go.RowKit
def Env (w : World) : Prop := (∃ m : Int, w.cell? ⟨0, 0, none⟩ = some (.int .i64 m)) ∧ (∃ tp p, w.var? Tryd.prog "strconv.ErrSyntax" = some #[.iface tp p]) ∧ (∃ tp p, w.var? Tryd.prog "strconv.ErrRange" = some #[.iface tp p])
theorem Env.below {w w' : World} (h : Env w) (hb : Below w.heap.size w w') : Env w' := by
  obtain ⟨⟨m, hm⟩, ⟨t1, p1, h1⟩, ⟨t2, p2, h2⟩⟩ := h
  have hlt : (0 : Nat) < w.heap.size := by
    rcases Nat.lt_or_ge 0 w.heap.size with hlt | hge
    · exact hlt
    · simp [World.cell?, Array.getElem?_eq_none hge] at hm
  exact ⟨⟨m, ((bcell hb).1 0 0 hlt).trans hm⟩, ⟨t1, p1, Joins.var_stays (g := 1) (by kernel_rfl) h1 hb (Nat.le_refl _)⟩, ⟨t2, p2, Joins.var_stays (g := 2) (by kernel_rfl) h2 hb (Nat.le_refl _)⟩⟩
/-- The name of the errors' type, as the row lists it. -/
def nmErr : String := match (Rows.laid_strconv_ErrRange : DataW Unit) with | .iface n _ => n | _ => default
theorem starErr : "*" ++ "errors.errorString" = nmErr := by decide
theorem rowErr (u : TypeId) (h : Tryd.prog.typeName? 3 u = some nmErr) : u = 113 :=
  typeName_ptr_named (nm := "errors.errorString") (by rw [starErr]; kernel_rfl) (by kernel_rfl) (by decide) u (by rw [starErr]; exact h)
theorem env_of {W : World} {laid : List (String × DataW Unit)} (hL : laidMetH Tryd.prog laid W) (he : laid = Rows.fnParseTaskRow.laid ∨ laid = Rows.fnSetTextRow.laid) (hS : W.ShapedOpen Tryd.prog) : Env W := by
  refine ⟨L_cutM.s1_3 W hS, ?_⟩
  have two : ∀ r, laidMet Tryd.prog (("strconv.ErrRange", Rows.laid_strconv_ErrRange) :: ("strconv.ErrSyntax", Rows.laid_strconv_ErrSyntax) :: r) W → (∃ tp p, W.var? Tryd.prog "strconv.ErrSyntax" = some #[.iface tp p]) ∧ (∃ tp p, W.var? Tryd.prog "strconv.ErrRange" = some #[.iface tp p]) := fun r h => by
    obtain ⟨a0, s0, hv0, _⟩ := laid_sentinel (g := 2) (ti := 47) (tp := 113) (te := 115) (ts := 9) h (by kernel_rfl) (by kernel_rfl) Tryd.underlying47 rowErr Tryd.underlying113 Tryd.underlying115 rfl rfl Tryd.underlying9 (by kernel_rfl) (by kernel_rfl)
    obtain ⟨a1, s1, hv1, _⟩ := laid_sentinel (g := 1) (ti := 47) (tp := 113) (te := 115) (ts := 9) h.tail (by kernel_rfl) (by kernel_rfl) Tryd.underlying47 rowErr Tryd.underlying113 Tryd.underlying115 rfl rfl Tryd.underlying9 (by kernel_rfl) (by kernel_rfl)
    exact ⟨⟨_, _, hv1⟩, ⟨_, _, hv0⟩⟩
  rcases he with rfl | rfl
  · exact two _ (laidMet.tail (laidMet.tail (laidMet.tail hL)))
  · exact two _ (laidMet.tail (laidMet.tail (laidMet.tail (laidMet.tail hL))))
end Go.Proofs.YtncpnjnmljobgaaDoor
