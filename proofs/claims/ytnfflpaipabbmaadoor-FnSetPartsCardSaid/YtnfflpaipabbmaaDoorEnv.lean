/-
  What the listed variables give: the table of the powers of ten.
-/
import Derived.Test.YtnfflpaipabbmaaDoorRows
import Derived.Test.YtnfflpaipabbmaaDoorBase
import Derived.Lib.LaidTab
import Derived.Lib.SmallJoins
import Derived.Shelf.Strconv.Itoa3
import Derived.Stop.LaidErr
namespace Go.Proofs.YtnfflpaipabbmaaDoor
set_option maxRecDepth 100000
open Go.RowKit
/-- The table's name. -/
def nmPow : String := Rows.fnFormatShareRow.named.getD 0 default
def Env (w : World) : Prop := Lib.TabIs Tryd.prog w nmPow .u64 Lib.pow10Tab
theorem Env.below {w w' : World} (h : Env w) (hb : Below w.heap.size w w') : Env w' := Joins.var_stays (g := 0) (by kernel_rfl) h hb (Nat.le_refl _)
theorem env_of {W : World} {laid : List (String × DataW Unit)} (hL : laidMetH Tryd.prog laid W) (he : laid = Rows.fnFormatShareRow.laid) (_ : W.ShapedOpen Tryd.prog) : Env W := by
  subst he
  exact Lib.tabIs_of_head (rest := []) (g := 0) (t := 90) (by kernel_rfl) (by kernel_rfl) Tryd.underlying90 Tryd.underlying81 (by kernel_rfl) (by kernel_rfl) (laidMet.tail (laidMet.tail hL))
end Go.Proofs.YtnfflpaipabbmaaDoor
