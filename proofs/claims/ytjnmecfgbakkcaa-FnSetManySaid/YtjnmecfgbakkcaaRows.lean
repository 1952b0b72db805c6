/-
  No cell of these rows narrows 'for every input' (looked for: loops, veiled, ifaces, maps, wideKeys, modest, calm, conditions, laid).
  DERIVED. THE GIVEN ROWS OF THIS SEAT. 12 by the template 'for every input the law returns true; each argument reads behind the call as it read before'; 0 by the template 'total and deterministic' (their statements: YtjnmecfgbakkcaaTotals.lean).
  GIVEN WITH THE SEED: the statements are not yours to turn. If you find one false, say at which input.
  Laid BY PROGRAM, IN A SANDBOX (cutbox-rows.mjs): the forced cells as the released guide's own fill.sh prints them over the translation 938f867744c1826c… (all of the seat's roots in one cut). By AI agents, Wed Nov 11 2026. No macro, syntax, notation, axiom, sorry.
-/
import Derived.Test.YtjnmecfgbakkcaaChecked
import GoSem.Claim
import GoSem.ClaimJoined
import GoSem.ClaimMapViews
import Derived.JoinedTies
import Derived.KernelRfl
namespace Go.Proofs.Ytjnmecfgbakkcaa
/- THE CELL 'sum', in the pinned program and in every row, IS THE sha256 OF THE DUMP (.gsa) THAT YtjnmecfgbakkcaaProg.lean LOADS. Nothing in Lean hashes anything: it is a label: what it is worth is what the hold of that sum in a sandbox is worth. -/
noncomputable def Try.pinned : Pinned := { name := "ytjnmecfgbakkcaa", sum := "938f867744c1826c4aedfcf3d2dd2640370e28da46502efb72a0639c33dae076", checked := Try.checked }
namespace Rows
def none {H : Type} : Left H := { results := [], args := [] }

/-- 'laws.FnSetMany': WHATEVER THE INPUT: true; the input reads as it did. -/
def fnSetManySpec : ChangeSpec := { name := "fnSetMany", fn := fun _ => fun
  | [d] => { results := [.lit (.bool true)], args := [d] }
  | _ => none }
def fnSetManyRow : OpenClaim := { program := "ytjnmecfgbakkcaa", sum := "938f867744c1826c4aedfcf3d2dd2640370e28da46502efb72a0639c33dae076", func := "loop.example/dualmodes/laws.FnSetMany", spec := "fnSetMany", apart := false }
def FnSetManySaid : Prop := fnSetManyRow.holds Try.pinned (OpenSpec.ofChange fnSetManySpec)

/-- ITS FALSE NEIGHBOUR: 'it returns false'. Refute it at one input. -/
def fnSetManyWrong : ChangeSpec := { name := "fnSetMany", fn := fun _ => fun
  | [d] => { results := [.lit (.bool false)], args := [d] }
  | _ => none }
def FnSetManyWrongFalsely : Prop := fnSetManyRow.holds Try.pinned (OpenSpec.ofChange fnSetManyWrong)

/-- 'laws.FnExactCriticalOf': WHATEVER THE INPUT: true; the input reads as it did. -/
def fnExactCriticalOfSpec : ChangeSpec := { name := "fnExactCriticalOf", fn := fun _ => fun
  | [d] => { results := [.lit (.bool true)], args := [d] }
  | _ => none }
def fnExactCriticalOfRow : OpenClaim := { program := "ytjnmecfgbakkcaa", sum := "938f867744c1826c4aedfcf3d2dd2640370e28da46502efb72a0639c33dae076", func := "loop.example/dualmodes/laws.FnExactCriticalOf", spec := "fnExactCriticalOf", apart := false }
def FnExactCriticalOfSaid : Prop := fnExactCriticalOfRow.holds Try.pinned (OpenSpec.ofChange fnExactCriticalOfSpec)

/-- ITS FALSE NEIGHBOUR: 'it returns false'. Refute it at one input. -/
def fnExactCriticalOfWrong : ChangeSpec := { name := "fnExactCriticalOf", fn := fun _ => fun
  | [d] => { results := [.lit (.bool false)], args := [d] }
  | _ => none }
def FnExactCriticalOfWrongFalsely : Prop := fnExactCriticalOfRow.holds Try.pinned (OpenSpec.ofChange fnExactCriticalOfWrong)

/-- 'laws.FnCriticalOf': WHATEVER THE INPUT: true; the input reads as it did. -/
def fnCriticalOfSpec : ChangeSpec := { name := "fnCriticalOf", fn := fun _ => fun
  | [d] => { results := [.lit (.bool true)], args := [d] }
  | _ => none }
def fnCriticalOfRow : OpenClaim := { program := "ytjnmecfgbakkcaa", sum := "938f867744c1826c4aedfcf3d2dd2640370e28da46502efb72a0639c33dae076", func := "loop.example/dualmodes/laws.FnCriticalOf", spec := "fnCriticalOf", apart := false }
def FnCriticalOfSaid : Prop := fnCriticalOfRow.holds Try.pinned (OpenSpec.ofChange fnCriticalOfSpec)

/-- ITS FALSE NEIGHBOUR: 'it returns false'. Refute it at one input. -/
def fnCriticalOfWrong : ChangeSpec := { name := "fnCriticalOf", fn := fun _ => fun
  | [d] => { results := [.lit (.bool false)], args := [d] }
  | _ => none }
def FnCriticalOfWrongFalsely : Prop := fnCriticalOfRow.holds Try.pinned (OpenSpec.ofChange fnCriticalOfWrong)

/-- 'laws.FnHyperLeast': WHATEVER THE INPUT: true; the input reads as it did. -/
def fnHyperLeastSpec : ChangeSpec := { name := "fnHyperLeast", fn := fun _ => fun
  | [d] => { results := [.lit (.bool true)], args := [d] }
  | _ => none }
def fnHyperLeastRow : OpenClaim := { program := "ytjnmecfgbakkcaa", sum := "938f867744c1826c4aedfcf3d2dd2640370e28da46502efb72a0639c33dae076", func := "loop.example/dualmodes/laws.FnHyperLeast", spec := "fnHyperLeast", apart := false }
def FnHyperLeastSaid : Prop := fnHyperLeastRow.holds Try.pinned (OpenSpec.ofChange fnHyperLeastSpec)

/-- ITS FALSE NEIGHBOUR: 'it returns false'. Refute it at one input. -/
def fnHyperLeastWrong : ChangeSpec := { name := "fnHyperLeast", fn := fun _ => fun
  | [d] => { results := [.lit (.bool false)], args := [d] }
  | _ => none }
def FnHyperLeastWrongFalsely : Prop := fnHyperLeastRow.holds Try.pinned (OpenSpec.ofChange fnHyperLeastWrong)

/-- 'laws.FnHyperMore': WHATEVER THE INPUT: true; the input reads as it did. -/
def fnHyperMoreSpec : ChangeSpec := { name := "fnHyperMore", fn := fun _ => fun
  | [d] => { results := [.lit (.bool true)], args := [d] }
  | _ => none }
def fnHyperMoreRow : OpenClaim := { program := "ytjnmecfgbakkcaa", sum := "938f867744c1826c4aedfcf3d2dd2640370e28da46502efb72a0639c33dae076", func := "loop.example/dualmodes/laws.FnHyperMore", spec := "fnHyperMore", apart := false }
def FnHyperMoreSaid : Prop := fnHyperMoreRow.holds Try.pinned (OpenSpec.ofChange fnHyperMoreSpec)

/-- ITS FALSE NEIGHBOUR: 'it returns false'. Refute it at one input. -/
def fnHyperMoreWrong : ChangeSpec := { name := "fnHyperMore", fn := fun _ => fun
  | [d] => { results := [.lit (.bool false)], args := [d] }
  | _ => none }
def FnHyperMoreWrongFalsely : Prop := fnHyperMoreRow.holds Try.pinned (OpenSpec.ofChange fnHyperMoreWrong)

/-- 'laws.FnHyperOf': WHATEVER THE INPUT: true; the input reads as it did. -/
def fnHyperOfSpec : ChangeSpec := { name := "fnHyperOf", fn := fun _ => fun
  | [d] => { results := [.lit (.bool true)], args := [d] }
  | _ => none }
def fnHyperOfRow : OpenClaim := { program := "ytjnmecfgbakkcaa", sum := "938f867744c1826c4aedfcf3d2dd2640370e28da46502efb72a0639c33dae076", func := "loop.example/dualmodes/laws.FnHyperOf", spec := "fnHyperOf", apart := false }
def FnHyperOfSaid : Prop := fnHyperOfRow.holds Try.pinned (OpenSpec.ofChange fnHyperOfSpec)

/-- ITS FALSE NEIGHBOUR: 'it returns false'. Refute it at one input. -/
def fnHyperOfWrong : ChangeSpec := { name := "fnHyperOf", fn := fun _ => fun
  | [d] => { results := [.lit (.bool false)], args := [d] }
  | _ => none }
def FnHyperOfWrongFalsely : Prop := fnHyperOfRow.holds Try.pinned (OpenSpec.ofChange fnHyperOfWrong)

/-- 'laws.FnCriticalHyper': WHATEVER THE INPUT: true; the input reads as it did. -/
def fnCriticalHyperSpec : ChangeSpec := { name := "fnCriticalHyper", fn := fun _ => fun
  | [d] => { results := [.lit (.bool true)], args := [d] }
  | _ => none }
def fnCriticalHyperRow : OpenClaim := { program := "ytjnmecfgbakkcaa", sum := "938f867744c1826c4aedfcf3d2dd2640370e28da46502efb72a0639c33dae076", func := "loop.example/dualmodes/laws.FnCriticalHyper", spec := "fnCriticalHyper", apart := false }
def FnCriticalHyperSaid : Prop := fnCriticalHyperRow.holds Try.pinned (OpenSpec.ofChange fnCriticalHyperSpec)

/-- ITS FALSE NEIGHBOUR: 'it returns false'. Refute it at one input. -/
def fnCriticalHyperWrong : ChangeSpec := { name := "fnCriticalHyper", fn := fun _ => fun
  | [d] => { results := [.lit (.bool false)], args := [d] }
  | _ => none }
def FnCriticalHyperWrongFalsely : Prop := fnCriticalHyperRow.holds Try.pinned (OpenSpec.ofChange fnCriticalHyperWrong)

/-- 'laws.FnExactLowShare': WHATEVER THE INPUT: true; the input reads as it did. -/
def fnExactLowShareSpec : ChangeSpec := { name := "fnExactLowShare", fn := fun _ => fun
  | [d1, d2] => { results := [.lit (.bool true)], args := [d1, d2] }
  | _ => none }
def fnExactLowShareRow : OpenClaim := { program := "ytjnmecfgbakkcaa", sum := "938f867744c1826c4aedfcf3d2dd2640370e28da46502efb72a0639c33dae076", func := "loop.example/dualmodes/laws.FnExactLowShare", spec := "fnExactLowShare", apart := false }
def FnExactLowShareSaid : Prop := fnExactLowShareRow.holds Try.pinned (OpenSpec.ofChange fnExactLowShareSpec)

/-- ITS FALSE NEIGHBOUR: 'it returns false'. Refute it at one input. -/
def fnExactLowShareWrong : ChangeSpec := { name := "fnExactLowShare", fn := fun _ => fun
  | [d1, d2] => { results := [.lit (.bool false)], args := [d1, d2] }
  | _ => none }
def FnExactLowShareWrongFalsely : Prop := fnExactLowShareRow.holds Try.pinned (OpenSpec.ofChange fnExactLowShareWrong)

/-- 'laws.FnExactHighShare': WHATEVER THE INPUT: true; the input reads as it did. -/
def fnExactHighShareSpec : ChangeSpec := { name := "fnExactHighShare", fn := fun _ => fun
  | [d] => { results := [.lit (.bool true)], args := [d] }
  | _ => none }
def fnExactHighShareRow : OpenClaim := { program := "ytjnmecfgbakkcaa", sum := "938f867744c1826c4aedfcf3d2dd2640370e28da46502efb72a0639c33dae076", func := "loop.example/dualmodes/laws.FnExactHighShare", spec := "fnExactHighShare", apart := false }
def FnExactHighShareSaid : Prop := fnExactHighShareRow.holds Try.pinned (OpenSpec.ofChange fnExactHighShareSpec)

/-- ITS FALSE NEIGHBOUR: 'it returns false'. Refute it at one input. -/
def fnExactHighShareWrong : ChangeSpec := { name := "fnExactHighShare", fn := fun _ => fun
  | [d] => { results := [.lit (.bool false)], args := [d] }
  | _ => none }
def FnExactHighShareWrongFalsely : Prop := fnExactHighShareRow.holds Try.pinned (OpenSpec.ofChange fnExactHighShareWrong)

/-- 'laws.FnExactResponseLow': WHATEVER THE INPUT: true; the input reads as it did. -/
def fnExactResponseLowSpec : ChangeSpec := { name := "fnExactResponseLow", fn := fun _ => fun
  | [d1, d2] => { results := [.lit (.bool true)], args := [d1, d2] }
  | _ => none }
def fnExactResponseLowRow : OpenClaim := { program := "ytjnmecfgbakkcaa", sum := "938f867744c1826c4aedfcf3d2dd2640370e28da46502efb72a0639c33dae076", func := "loop.example/dualmodes/laws.FnExactResponseLow", spec := "fnExactResponseLow", unfollowed := true, recurses := true, apart := false }
def FnExactResponseLowSaid : Prop := fnExactResponseLowRow.holds Try.pinned (OpenSpec.ofChange fnExactResponseLowSpec)

/-- ITS FALSE NEIGHBOUR: 'it returns false'. Refute it at one input. -/
def fnExactResponseLowWrong : ChangeSpec := { name := "fnExactResponseLow", fn := fun _ => fun
  | [d1, d2] => { results := [.lit (.bool false)], args := [d1, d2] }
  | _ => none }
def FnExactResponseLowWrongFalsely : Prop := fnExactResponseLowRow.holds Try.pinned (OpenSpec.ofChange fnExactResponseLowWrong)

/-- 'laws.FnExactBusyLow': WHATEVER THE INPUT: true; the input reads as it did. -/
def fnExactBusyLowSpec : ChangeSpec := { name := "fnExactBusyLow", fn := fun _ => fun
  | [d] => { results := [.lit (.bool true)], args := [d] }
  | _ => none }
def fnExactBusyLowRow : OpenClaim := { program := "ytjnmecfgbakkcaa", sum := "938f867744c1826c4aedfcf3d2dd2640370e28da46502efb72a0639c33dae076", func := "loop.example/dualmodes/laws.FnExactBusyLow", spec := "fnExactBusyLow", unfollowed := true, recurses := true, apart := false }
def FnExactBusyLowSaid : Prop := fnExactBusyLowRow.holds Try.pinned (OpenSpec.ofChange fnExactBusyLowSpec)

/-- ITS FALSE NEIGHBOUR: 'it returns false'. Refute it at one input. -/
def fnExactBusyLowWrong : ChangeSpec := { name := "fnExactBusyLow", fn := fun _ => fun
  | [d] => { results := [.lit (.bool false)], args := [d] }
  | _ => none }
def FnExactBusyLowWrongFalsely : Prop := fnExactBusyLowRow.holds Try.pinned (OpenSpec.ofChange fnExactBusyLowWrong)

/-- 'laws.FnExactHoldsLow': WHATEVER THE INPUT: true; the input reads as it did. -/
def fnExactHoldsLowSpec : ChangeSpec := { name := "fnExactHoldsLow", fn := fun _ => fun
  | [d] => { results := [.lit (.bool true)], args := [d] }
  | _ => none }
def fnExactHoldsLowRow : OpenClaim := { program := "ytjnmecfgbakkcaa", sum := "938f867744c1826c4aedfcf3d2dd2640370e28da46502efb72a0639c33dae076", func := "loop.example/dualmodes/laws.FnExactHoldsLow", spec := "fnExactHoldsLow", unfollowed := true, recurses := true, apart := false }
def FnExactHoldsLowSaid : Prop := fnExactHoldsLowRow.holds Try.pinned (OpenSpec.ofChange fnExactHoldsLowSpec)

/-- ITS FALSE NEIGHBOUR: 'it returns false'. Refute it at one input. -/
def fnExactHoldsLowWrong : ChangeSpec := { name := "fnExactHoldsLow", fn := fun _ => fun
  | [d] => { results := [.lit (.bool false)], args := [d] }
  | _ => none }
def FnExactHoldsLowWrongFalsely : Prop := fnExactHoldsLowRow.holds Try.pinned (OpenSpec.ofChange fnExactHoldsLowWrong)

/- THE SECOND FORM. 'bulk': how many values and letters a reading holds, each counted each time it is reached (what is shared counts as often as it is met; a slice's spare places count too). A statement '..UptoSaid' is the law's where the arguments, and the package variables that the reading takes, are together of bulk at most 1048576: NARROWER than '..Said'. Prove '..Said' where nothing that the law and all that it calls make is longer than what came in: it says more and counts as full. Else prove '..UptoSaid'. A law counts once. -/
mutual
def uptoBulk {H : Type} : DataW H → Nat
  | .lit (.string bytes) => bytes.length + 1
  | .lit _ => 1
  | .nil => 1
  | .ptr d => uptoBulk d + 1
  | .slice elems spare => uptoBulkAll elems + uptoBulkAll spare + 1
  | .agg parts => uptoBulkAll parts + 1
  | .iface _ d => uptoBulk d + 1
  | .map entries => uptoBulkEntries entries + 1
  | .held _ => 1
def uptoBulkAll {H : Type} : List (DataW H) → Nat
  | [] => 0
  | d :: r => uptoBulk d + uptoBulkAll r
def uptoBulkEntries {H : Type} : List (Lit × DataW H) → Nat
  | [] => 0
  | x :: r => uptoBulkEntry x + uptoBulkEntries r
def uptoBulkEntry {H : Type} : Lit × DataW H → Nat
  | (.string bytes, d) => bytes.length + uptoBulk d + 1
  | (_, d) => uptoBulk d + 1
 end
def uptoSmall : (H : Type) → List (DataW H) → Bool := fun _ ds => decide (uptoBulkAll ds ≤ 1048576)
def OpenSpec.upto (s : _root_.Go.ChangeSpec) : _root_.Go.OpenSpec := { _root_.Go.OpenSpec.ofChange s with cond := some uptoSmall }

/-- 'laws.FnSetMany', WHERE WHAT IT READS IS OF BULK AT MOST 1048576: true; the input reads as it did. -/
def fnSetManyUptoRow : OpenClaim := { program := "ytjnmecfgbakkcaa", sum := "938f867744c1826c4aedfcf3d2dd2640370e28da46502efb72a0639c33dae076", func := "loop.example/dualmodes/laws.FnSetMany", spec := "fnSetMany", apart := false, narrowed := true }
def FnSetManyUptoSaid : Prop := fnSetManyUptoRow.holds Try.pinned (OpenSpec.upto fnSetManySpec)

/-- 'laws.FnExactCriticalOf', WHERE WHAT IT READS IS OF BULK AT MOST 1048576: true; the input reads as it did. -/
def fnExactCriticalOfUptoRow : OpenClaim := { program := "ytjnmecfgbakkcaa", sum := "938f867744c1826c4aedfcf3d2dd2640370e28da46502efb72a0639c33dae076", func := "loop.example/dualmodes/laws.FnExactCriticalOf", spec := "fnExactCriticalOf", apart := false, narrowed := true }
def FnExactCriticalOfUptoSaid : Prop := fnExactCriticalOfUptoRow.holds Try.pinned (OpenSpec.upto fnExactCriticalOfSpec)

/-- 'laws.FnCriticalOf', WHERE WHAT IT READS IS OF BULK AT MOST 1048576: true; the input reads as it did. -/
def fnCriticalOfUptoRow : OpenClaim := { program := "ytjnmecfgbakkcaa", sum := "938f867744c1826c4aedfcf3d2dd2640370e28da46502efb72a0639c33dae076", func := "loop.example/dualmodes/laws.FnCriticalOf", spec := "fnCriticalOf", apart := false, narrowed := true }
def FnCriticalOfUptoSaid : Prop := fnCriticalOfUptoRow.holds Try.pinned (OpenSpec.upto fnCriticalOfSpec)

/-- 'laws.FnHyperLeast', WHERE WHAT IT READS IS OF BULK AT MOST 1048576: true; the input reads as it did. -/
def fnHyperLeastUptoRow : OpenClaim := { program := "ytjnmecfgbakkcaa", sum := "938f867744c1826c4aedfcf3d2dd2640370e28da46502efb72a0639c33dae076", func := "loop.example/dualmodes/laws.FnHyperLeast", spec := "fnHyperLeast", apart := false, narrowed := true }
def FnHyperLeastUptoSaid : Prop := fnHyperLeastUptoRow.holds Try.pinned (OpenSpec.upto fnHyperLeastSpec)

/-- 'laws.FnHyperMore', WHERE WHAT IT READS IS OF BULK AT MOST 1048576: true; the input reads as it did. -/
def fnHyperMoreUptoRow : OpenClaim := { program := "ytjnmecfgbakkcaa", sum := "938f867744c1826c4aedfcf3d2dd2640370e28da46502efb72a0639c33dae076", func := "loop.example/dualmodes/laws.FnHyperMore", spec := "fnHyperMore", apart := false, narrowed := true }
def FnHyperMoreUptoSaid : Prop := fnHyperMoreUptoRow.holds Try.pinned (OpenSpec.upto fnHyperMoreSpec)

/-- 'laws.FnHyperOf', WHERE WHAT IT READS IS OF BULK AT MOST 1048576: true; the input reads as it did. -/
def fnHyperOfUptoRow : OpenClaim := { program := "ytjnmecfgbakkcaa", sum := "938f867744c1826c4aedfcf3d2dd2640370e28da46502efb72a0639c33dae076", func := "loop.example/dualmodes/laws.FnHyperOf", spec := "fnHyperOf", apart := false, narrowed := true }
def FnHyperOfUptoSaid : Prop := fnHyperOfUptoRow.holds Try.pinned (OpenSpec.upto fnHyperOfSpec)

/-- 'laws.FnCriticalHyper', WHERE WHAT IT READS IS OF BULK AT MOST 1048576: true; the input reads as it did. -/
def fnCriticalHyperUptoRow : OpenClaim := { program := "ytjnmecfgbakkcaa", sum := "938f867744c1826c4aedfcf3d2dd2640370e28da46502efb72a0639c33dae076", func := "loop.example/dualmodes/laws.FnCriticalHyper", spec := "fnCriticalHyper", apart := false, narrowed := true }
def FnCriticalHyperUptoSaid : Prop := fnCriticalHyperUptoRow.holds Try.pinned (OpenSpec.upto fnCriticalHyperSpec)

/-- 'laws.FnExactLowShare', WHERE WHAT IT READS IS OF BULK AT MOST 1048576: true; the input reads as it did. -/
def fnExactLowShareUptoRow : OpenClaim := { program := "ytjnmecfgbakkcaa", sum := "938f867744c1826c4aedfcf3d2dd2640370e28da46502efb72a0639c33dae076", func := "loop.example/dualmodes/laws.FnExactLowShare", spec := "fnExactLowShare", apart := false, narrowed := true }
def FnExactLowShareUptoSaid : Prop := fnExactLowShareUptoRow.holds Try.pinned (OpenSpec.upto fnExactLowShareSpec)

/-- 'laws.FnExactHighShare', WHERE WHAT IT READS IS OF BULK AT MOST 1048576: true; the input reads as it did. -/
def fnExactHighShareUptoRow : OpenClaim := { program := "ytjnmecfgbakkcaa", sum := "938f867744c1826c4aedfcf3d2dd2640370e28da46502efb72a0639c33dae076", func := "loop.example/dualmodes/laws.FnExactHighShare", spec := "fnExactHighShare", apart := false, narrowed := true }
def FnExactHighShareUptoSaid : Prop := fnExactHighShareUptoRow.holds Try.pinned (OpenSpec.upto fnExactHighShareSpec)

/-- 'laws.FnExactResponseLow', WHERE WHAT IT READS IS OF BULK AT MOST 1048576: true; the input reads as it did. -/
def fnExactResponseLowUptoRow : OpenClaim := { program := "ytjnmecfgbakkcaa", sum := "938f867744c1826c4aedfcf3d2dd2640370e28da46502efb72a0639c33dae076", func := "loop.example/dualmodes/laws.FnExactResponseLow", spec := "fnExactResponseLow", unfollowed := true, recurses := true, apart := false, narrowed := true }
def FnExactResponseLowUptoSaid : Prop := fnExactResponseLowUptoRow.holds Try.pinned (OpenSpec.upto fnExactResponseLowSpec)

/-- 'laws.FnExactBusyLow', WHERE WHAT IT READS IS OF BULK AT MOST 1048576: true; the input reads as it did. -/
def fnExactBusyLowUptoRow : OpenClaim := { program := "ytjnmecfgbakkcaa", sum := "938f867744c1826c4aedfcf3d2dd2640370e28da46502efb72a0639c33dae076", func := "loop.example/dualmodes/laws.FnExactBusyLow", spec := "fnExactBusyLow", unfollowed := true, recurses := true, apart := false, narrowed := true }
def FnExactBusyLowUptoSaid : Prop := fnExactBusyLowUptoRow.holds Try.pinned (OpenSpec.upto fnExactBusyLowSpec)

/-- 'laws.FnExactHoldsLow', WHERE WHAT IT READS IS OF BULK AT MOST 1048576: true; the input reads as it did. -/
def fnExactHoldsLowUptoRow : OpenClaim := { program := "ytjnmecfgbakkcaa", sum := "938f867744c1826c4aedfcf3d2dd2640370e28da46502efb72a0639c33dae076", func := "loop.example/dualmodes/laws.FnExactHoldsLow", spec := "fnExactHoldsLow", unfollowed := true, recurses := true, apart := false, narrowed := true }
def FnExactHoldsLowUptoSaid : Prop := fnExactHoldsLowUptoRow.holds Try.pinned (OpenSpec.upto fnExactHoldsLowSpec)

end Rows
end Go.Proofs.Ytjnmecfgbakkcaa
