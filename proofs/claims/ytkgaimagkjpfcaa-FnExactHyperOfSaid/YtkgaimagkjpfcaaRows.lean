/-
  No cell of these rows narrows 'for every input' (looked for: loops, veiled, ifaces, maps, wideKeys, modest, calm, conditions, laid).
  DERIVED. THE GIVEN ROWS OF THIS SEAT. 12 by the template 'for every input the law returns true; each argument reads behind the call as it read before'; 0 by the template 'total and deterministic' (their statements: YtkgaimagkjpfcaaTotals.lean).
  GIVEN WITH THE SEED: the statements are not yours to turn. If you find one false, say at which input.
  Laid BY PROGRAM, IN A SANDBOX (cutbox-rows.mjs): the forced cells as the released guide's own fill.sh prints them over the translation 518b9257e9cab49b… (all of the seat's roots in one cut). By AI agents, Wed Nov 11 2026. No macro, syntax, notation, axiom, sorry.
-/
import Derived.Test.YtkgaimagkjpfcaaChecked
import GoSem.Claim
import GoSem.ClaimJoined
import GoSem.ClaimMapViews
import Derived.JoinedTies
import Derived.KernelRfl
namespace Go.Proofs.Ytkgaimagkjpfcaa
/- THE CELL 'sum', in the pinned program and in every row, IS THE sha256 OF THE DUMP (.gsa) THAT YtkgaimagkjpfcaaProg.lean LOADS. Nothing in Lean hashes anything: it is a label: what it is worth is what the hold of that sum in a sandbox is worth. -/
noncomputable def Try.pinned : Pinned := { name := "ytkgaimagkjpfcaa", sum := "518b9257e9cab49bbc4234357b0d656a1bbe2748eb3662bf7861f0dd4f64643b", checked := Try.checked }
namespace Rows
def none {H : Type} : Left H := { results := [], args := [] }

/-- 'laws.FnExactCompareShares': WHATEVER THE INPUT: true; the input reads as it did. -/
def fnExactCompareSharesSpec : ChangeSpec := { name := "fnExactCompareShares", fn := fun _ => fun
  | [d1, d2] => { results := [.lit (.bool true)], args := [d1, d2] }
  | _ => none }
def fnExactCompareSharesRow : OpenClaim := { program := "ytkgaimagkjpfcaa", sum := "518b9257e9cab49bbc4234357b0d656a1bbe2748eb3662bf7861f0dd4f64643b", func := "loop.example/dualmodes/laws.FnExactCompareShares", spec := "fnExactCompareShares", apart := false }
def FnExactCompareSharesSaid : Prop := fnExactCompareSharesRow.holds Try.pinned (OpenSpec.ofChange fnExactCompareSharesSpec)

/-- ITS FALSE NEIGHBOUR: 'it returns false'. Refute it at one input. -/
def fnExactCompareSharesWrong : ChangeSpec := { name := "fnExactCompareShares", fn := fun _ => fun
  | [d1, d2] => { results := [.lit (.bool false)], args := [d1, d2] }
  | _ => none }
def FnExactCompareSharesWrongFalsely : Prop := fnExactCompareSharesRow.holds Try.pinned (OpenSpec.ofChange fnExactCompareSharesWrong)

/-- 'laws.FnDemandAdd': WHATEVER THE INPUT: true; the input reads as it did. -/
def fnDemandAddSpec : ChangeSpec := { name := "fnDemandAdd", fn := fun _ => fun
  | [d] => { results := [.lit (.bool true)], args := [d] }
  | _ => none }
def fnDemandAddRow : OpenClaim := { program := "ytkgaimagkjpfcaa", sum := "518b9257e9cab49bbc4234357b0d656a1bbe2748eb3662bf7861f0dd4f64643b", func := "loop.example/dualmodes/laws.FnDemandAdd", spec := "fnDemandAdd", apart := false }
def FnDemandAddSaid : Prop := fnDemandAddRow.holds Try.pinned (OpenSpec.ofChange fnDemandAddSpec)

/-- ITS FALSE NEIGHBOUR: 'it returns false'. Refute it at one input. -/
def fnDemandAddWrong : ChangeSpec := { name := "fnDemandAdd", fn := fun _ => fun
  | [d] => { results := [.lit (.bool false)], args := [d] }
  | _ => none }
def FnDemandAddWrongFalsely : Prop := fnDemandAddRow.holds Try.pinned (OpenSpec.ofChange fnDemandAddWrong)

/-- 'laws.FnDemandOf': WHATEVER THE INPUT: true; the input reads as it did. -/
def fnDemandOfSpec : ChangeSpec := { name := "fnDemandOf", fn := fun _ => fun
  | [d] => { results := [.lit (.bool true)], args := [d] }
  | _ => none }
def fnDemandOfRow : OpenClaim := { program := "ytkgaimagkjpfcaa", sum := "518b9257e9cab49bbc4234357b0d656a1bbe2748eb3662bf7861f0dd4f64643b", func := "loop.example/dualmodes/laws.FnDemandOf", spec := "fnDemandOf", apart := false }
def FnDemandOfSaid : Prop := fnDemandOfRow.holds Try.pinned (OpenSpec.ofChange fnDemandOfSpec)

/-- ITS FALSE NEIGHBOUR: 'it returns false'. Refute it at one input. -/
def fnDemandOfWrong : ChangeSpec := { name := "fnDemandOf", fn := fun _ => fun
  | [d] => { results := [.lit (.bool false)], args := [d] }
  | _ => none }
def FnDemandOfWrongFalsely : Prop := fnDemandOfRow.holds Try.pinned (OpenSpec.ofChange fnDemandOfWrong)

/-- 'laws.FnDemandOne': WHATEVER THE INPUT: true; the input reads as it did. -/
def fnDemandOneSpec : ChangeSpec := { name := "fnDemandOne", fn := fun _ => fun
  | [d] => { results := [.lit (.bool true)], args := [d] }
  | _ => none }
def fnDemandOneRow : OpenClaim := { program := "ytkgaimagkjpfcaa", sum := "518b9257e9cab49bbc4234357b0d656a1bbe2748eb3662bf7861f0dd4f64643b", func := "loop.example/dualmodes/laws.FnDemandOne", spec := "fnDemandOne", apart := false }
def FnDemandOneSaid : Prop := fnDemandOneRow.holds Try.pinned (OpenSpec.ofChange fnDemandOneSpec)

/-- ITS FALSE NEIGHBOUR: 'it returns false'. Refute it at one input. -/
def fnDemandOneWrong : ChangeSpec := { name := "fnDemandOne", fn := fun _ => fun
  | [d] => { results := [.lit (.bool false)], args := [d] }
  | _ => none }
def FnDemandOneWrongFalsely : Prop := fnDemandOneRow.holds Try.pinned (OpenSpec.ofChange fnDemandOneWrong)

/-- 'laws.FnShareZero': WHATEVER THE INPUT: true; the input reads as it did. -/
def fnShareZeroSpec : ChangeSpec := { name := "fnShareZero", fn := fun _ => fun
  | [d] => { results := [.lit (.bool true)], args := [d] }
  | _ => none }
def fnShareZeroRow : OpenClaim := { program := "ytkgaimagkjpfcaa", sum := "518b9257e9cab49bbc4234357b0d656a1bbe2748eb3662bf7861f0dd4f64643b", func := "loop.example/dualmodes/laws.FnShareZero", spec := "fnShareZero", apart := false }
def FnShareZeroSaid : Prop := fnShareZeroRow.holds Try.pinned (OpenSpec.ofChange fnShareZeroSpec)

/-- ITS FALSE NEIGHBOUR: 'it returns false'. Refute it at one input. -/
def fnShareZeroWrong : ChangeSpec := { name := "fnShareZero", fn := fun _ => fun
  | [d] => { results := [.lit (.bool false)], args := [d] }
  | _ => none }
def FnShareZeroWrongFalsely : Prop := fnShareZeroRow.holds Try.pinned (OpenSpec.ofChange fnShareZeroWrong)

/-- 'laws.FnSetMany': WHATEVER THE INPUT: true; the input reads as it did. -/
def fnSetManySpec : ChangeSpec := { name := "fnSetMany", fn := fun _ => fun
  | [d] => { results := [.lit (.bool true)], args := [d] }
  | _ => none }
def fnSetManyRow : OpenClaim := { program := "ytkgaimagkjpfcaa", sum := "518b9257e9cab49bbc4234357b0d656a1bbe2748eb3662bf7861f0dd4f64643b", func := "loop.example/dualmodes/laws.FnSetMany", spec := "fnSetMany", apart := false }
def FnSetManySaid : Prop := fnSetManyRow.holds Try.pinned (OpenSpec.ofChange fnSetManySpec)

/-- ITS FALSE NEIGHBOUR: 'it returns false'. Refute it at one input. -/
def fnSetManyWrong : ChangeSpec := { name := "fnSetMany", fn := fun _ => fun
  | [d] => { results := [.lit (.bool false)], args := [d] }
  | _ => none }
def FnSetManyWrongFalsely : Prop := fnSetManyRow.holds Try.pinned (OpenSpec.ofChange fnSetManyWrong)

/-- 'laws.FnExactHyperOf': WHATEVER THE INPUT: true; the input reads as it did. -/
def fnExactHyperOfSpec : ChangeSpec := { name := "fnExactHyperOf", fn := fun _ => fun
  | [d] => { results := [.lit (.bool true)], args := [d] }
  | _ => none }
def fnExactHyperOfRow : OpenClaim := { program := "ytkgaimagkjpfcaa", sum := "518b9257e9cab49bbc4234357b0d656a1bbe2748eb3662bf7861f0dd4f64643b", func := "loop.example/dualmodes/laws.FnExactHyperOf", spec := "fnExactHyperOf", apart := false }
def FnExactHyperOfSaid : Prop := fnExactHyperOfRow.holds Try.pinned (OpenSpec.ofChange fnExactHyperOfSpec)

/-- ITS FALSE NEIGHBOUR: 'it returns false'. Refute it at one input. -/
def fnExactHyperOfWrong : ChangeSpec := { name := "fnExactHyperOf", fn := fun _ => fun
  | [d] => { results := [.lit (.bool false)], args := [d] }
  | _ => none }
def FnExactHyperOfWrongFalsely : Prop := fnExactHyperOfRow.holds Try.pinned (OpenSpec.ofChange fnExactHyperOfWrong)

/-- 'laws.FnCompareSame': WHATEVER THE INPUT: true; the input reads as it did. -/
def fnCompareSameSpec : ChangeSpec := { name := "fnCompareSame", fn := fun _ => fun
  | [d] => { results := [.lit (.bool true)], args := [d] }
  | _ => none }
def fnCompareSameRow : OpenClaim := { program := "ytkgaimagkjpfcaa", sum := "518b9257e9cab49bbc4234357b0d656a1bbe2748eb3662bf7861f0dd4f64643b", func := "loop.example/dualmodes/laws.FnCompareSame", spec := "fnCompareSame", apart := false }
def FnCompareSameSaid : Prop := fnCompareSameRow.holds Try.pinned (OpenSpec.ofChange fnCompareSameSpec)

/-- ITS FALSE NEIGHBOUR: 'it returns false'. Refute it at one input. -/
def fnCompareSameWrong : ChangeSpec := { name := "fnCompareSame", fn := fun _ => fun
  | [d] => { results := [.lit (.bool false)], args := [d] }
  | _ => none }
def FnCompareSameWrongFalsely : Prop := fnCompareSameRow.holds Try.pinned (OpenSpec.ofChange fnCompareSameWrong)

/-- 'laws.FnCompareShares': WHATEVER THE INPUT: true; the input reads as it did. -/
def fnCompareSharesSpec : ChangeSpec := { name := "fnCompareShares", fn := fun _ => fun
  | [d] => { results := [.lit (.bool true)], args := [d] }
  | _ => none }
def fnCompareSharesRow : OpenClaim := { program := "ytkgaimagkjpfcaa", sum := "518b9257e9cab49bbc4234357b0d656a1bbe2748eb3662bf7861f0dd4f64643b", func := "loop.example/dualmodes/laws.FnCompareShares", spec := "fnCompareShares", apart := false }
def FnCompareSharesSaid : Prop := fnCompareSharesRow.holds Try.pinned (OpenSpec.ofChange fnCompareSharesSpec)

/-- ITS FALSE NEIGHBOUR: 'it returns false'. Refute it at one input. -/
def fnCompareSharesWrong : ChangeSpec := { name := "fnCompareShares", fn := fun _ => fun
  | [d] => { results := [.lit (.bool false)], args := [d] }
  | _ => none }
def FnCompareSharesWrongFalsely : Prop := fnCompareSharesRow.holds Try.pinned (OpenSpec.ofChange fnCompareSharesWrong)

/-- 'laws.FnAddShares': WHATEVER THE INPUT: true; the input reads as it did. -/
def fnAddSharesSpec : ChangeSpec := { name := "fnAddShares", fn := fun _ => fun
  | [d] => { results := [.lit (.bool true)], args := [d] }
  | _ => none }
def fnAddSharesRow : OpenClaim := { program := "ytkgaimagkjpfcaa", sum := "518b9257e9cab49bbc4234357b0d656a1bbe2748eb3662bf7861f0dd4f64643b", func := "loop.example/dualmodes/laws.FnAddShares", spec := "fnAddShares", apart := false }
def FnAddSharesSaid : Prop := fnAddSharesRow.holds Try.pinned (OpenSpec.ofChange fnAddSharesSpec)

/-- ITS FALSE NEIGHBOUR: 'it returns false'. Refute it at one input. -/
def fnAddSharesWrong : ChangeSpec := { name := "fnAddShares", fn := fun _ => fun
  | [d] => { results := [.lit (.bool false)], args := [d] }
  | _ => none }
def FnAddSharesWrongFalsely : Prop := fnAddSharesRow.holds Try.pinned (OpenSpec.ofChange fnAddSharesWrong)

/-- 'laws.FnAddMore': WHATEVER THE INPUT: true; the input reads as it did. -/
def fnAddMoreSpec : ChangeSpec := { name := "fnAddMore", fn := fun _ => fun
  | [d] => { results := [.lit (.bool true)], args := [d] }
  | _ => none }
def fnAddMoreRow : OpenClaim := { program := "ytkgaimagkjpfcaa", sum := "518b9257e9cab49bbc4234357b0d656a1bbe2748eb3662bf7861f0dd4f64643b", func := "loop.example/dualmodes/laws.FnAddMore", spec := "fnAddMore", apart := false }
def FnAddMoreSaid : Prop := fnAddMoreRow.holds Try.pinned (OpenSpec.ofChange fnAddMoreSpec)

/-- ITS FALSE NEIGHBOUR: 'it returns false'. Refute it at one input. -/
def fnAddMoreWrong : ChangeSpec := { name := "fnAddMore", fn := fun _ => fun
  | [d] => { results := [.lit (.bool false)], args := [d] }
  | _ => none }
def FnAddMoreWrongFalsely : Prop := fnAddMoreRow.holds Try.pinned (OpenSpec.ofChange fnAddMoreWrong)

/-- 'laws.FnExactCriticalOf': WHATEVER THE INPUT: true; the input reads as it did. -/
def fnExactCriticalOfSpec : ChangeSpec := { name := "fnExactCriticalOf", fn := fun _ => fun
  | [d] => { results := [.lit (.bool true)], args := [d] }
  | _ => none }
def fnExactCriticalOfRow : OpenClaim := { program := "ytkgaimagkjpfcaa", sum := "518b9257e9cab49bbc4234357b0d656a1bbe2748eb3662bf7861f0dd4f64643b", func := "loop.example/dualmodes/laws.FnExactCriticalOf", spec := "fnExactCriticalOf", apart := false }
def FnExactCriticalOfSaid : Prop := fnExactCriticalOfRow.holds Try.pinned (OpenSpec.ofChange fnExactCriticalOfSpec)

/-- ITS FALSE NEIGHBOUR: 'it returns false'. Refute it at one input. -/
def fnExactCriticalOfWrong : ChangeSpec := { name := "fnExactCriticalOf", fn := fun _ => fun
  | [d] => { results := [.lit (.bool false)], args := [d] }
  | _ => none }
def FnExactCriticalOfWrongFalsely : Prop := fnExactCriticalOfRow.holds Try.pinned (OpenSpec.ofChange fnExactCriticalOfWrong)

/- THE SECOND FORM. 'bulk': how many values and letters a reading holds, each counted each time it is reached (what is shared counts as often as it is met; a slice's spare places count too). A statement '..UptoSaid' is the law's where the arguments, and the package variables that the reading takes, are together of bulk at most 1048576: NARROWER than '..Said'. Prove '..Said' where nothing that the law and all that it calls make is longer than what came in: it says more and counts as full. Else prove '..UptoSaid'. A law counts once. -/
mutual
def uptoBulk {H : Type} : DataW H → Nat
  | .lit (.string bytes) => bytes.length + 1
  | .lit _ => 1
  | .nil => 1
  | .ptr d => uptoBulk d + 1
  | .slice elems spare => uptoBulkAll elems + uptoBulkAll spare + 1
  | .agg parts => uptoBulkAll parts + 1
  | .iface _ d => uptoBulk d + 1
  | .map entries => uptoBulkEntries entries + 1
  | .held _ => 1
def uptoBulkAll {H : Type} : List (DataW H) → Nat
  | [] => 0
  | d :: r => uptoBulk d + uptoBulkAll r
def uptoBulkEntries {H : Type} : List (Lit × DataW H) → Nat
  | [] => 0
  | x :: r => uptoBulkEntry x + uptoBulkEntries r
def uptoBulkEntry {H : Type} : Lit × DataW H → Nat
  | (.string bytes, d) => bytes.length + uptoBulk d + 1
  | (_, d) => uptoBulk d + 1
 end
def uptoSmall : (H : Type) → List (DataW H) → Bool := fun _ ds => decide (uptoBulkAll ds ≤ 1048576)
def OpenSpec.upto (s : _root_.Go.ChangeSpec) : _root_.Go.OpenSpec := { _root_.Go.OpenSpec.ofChange s with cond := some uptoSmall }

/-- 'laws.FnExactCompareShares', WHERE WHAT IT READS IS OF BULK AT MOST 1048576: true; the input reads as it did. -/
def fnExactCompareSharesUptoRow : OpenClaim := { program := "ytkgaimagkjpfcaa", sum := "518b9257e9cab49bbc4234357b0d656a1bbe2748eb3662bf7861f0dd4f64643b", func := "loop.example/dualmodes/laws.FnExactCompareShares", spec := "fnExactCompareShares", apart := false, narrowed := true }
def FnExactCompareSharesUptoSaid : Prop := fnExactCompareSharesUptoRow.holds Try.pinned (OpenSpec.upto fnExactCompareSharesSpec)

/-- 'laws.FnDemandAdd', WHERE WHAT IT READS IS OF BULK AT MOST 1048576: true; the input reads as it did. -/
def fnDemandAddUptoRow : OpenClaim := { program := "ytkgaimagkjpfcaa", sum := "518b9257e9cab49bbc4234357b0d656a1bbe2748eb3662bf7861f0dd4f64643b", func := "loop.example/dualmodes/laws.FnDemandAdd", spec := "fnDemandAdd", apart := false, narrowed := true }
def FnDemandAddUptoSaid : Prop := fnDemandAddUptoRow.holds Try.pinned (OpenSpec.upto fnDemandAddSpec)

/-- 'laws.FnDemandOf', WHERE WHAT IT READS IS OF BULK AT MOST 1048576: true; the input reads as it did. -/
def fnDemandOfUptoRow : OpenClaim := { program := "ytkgaimagkjpfcaa", sum := "518b9257e9cab49bbc4234357b0d656a1bbe2748eb3662bf7861f0dd4f64643b", func := "loop.example/dualmodes/laws.FnDemandOf", spec := "fnDemandOf", apart := false, narrowed := true }
def FnDemandOfUptoSaid : Prop := fnDemandOfUptoRow.holds Try.pinned (OpenSpec.upto fnDemandOfSpec)

/-- 'laws.FnDemandOne', WHERE WHAT IT READS IS OF BULK AT MOST 1048576: true; the input reads as it did. -/
def fnDemandOneUptoRow : OpenClaim := { program := "ytkgaimagkjpfcaa", sum := "518b9257e9cab49bbc4234357b0d656a1bbe2748eb3662bf7861f0dd4f64643b", func := "loop.example/dualmodes/laws.FnDemandOne", spec := "fnDemandOne", apart := false, narrowed := true }
def FnDemandOneUptoSaid : Prop := fnDemandOneUptoRow.holds Try.pinned (OpenSpec.upto fnDemandOneSpec)

/-- 'laws.FnShareZero', WHERE WHAT IT READS IS OF BULK AT MOST 1048576: true; the input reads as it did. -/
def fnShareZeroUptoRow : OpenClaim := { program := "ytkgaimagkjpfcaa", sum := "518b9257e9cab49bbc4234357b0d656a1bbe2748eb3662bf7861f0dd4f64643b", func := "loop.example/dualmodes/laws.FnShareZero", spec := "fnShareZero", apart := false, narrowed := true }
def FnShareZeroUptoSaid : Prop := fnShareZeroUptoRow.holds Try.pinned (OpenSpec.upto fnShareZeroSpec)

/-- 'laws.FnSetMany', WHERE WHAT IT READS IS OF BULK AT MOST 1048576: true; the input reads as it did. -/
def fnSetManyUptoRow : OpenClaim := { program := "ytkgaimagkjpfcaa", sum := "518b9257e9cab49bbc4234357b0d656a1bbe2748eb3662bf7861f0dd4f64643b", func := "loop.example/dualmodes/laws.FnSetMany", spec := "fnSetMany", apart := false, narrowed := true }
def FnSetManyUptoSaid : Prop := fnSetManyUptoRow.holds Try.pinned (OpenSpec.upto fnSetManySpec)

/-- 'laws.FnExactHyperOf', WHERE WHAT IT READS IS OF BULK AT MOST 1048576: true; the input reads as it did. -/
def fnExactHyperOfUptoRow : OpenClaim := { program := "ytkgaimagkjpfcaa", sum := "518b9257e9cab49bbc4234357b0d656a1bbe2748eb3662bf7861f0dd4f64643b", func := "loop.example/dualmodes/laws.FnExactHyperOf", spec := "fnExactHyperOf", apart := false, narrowed := true }
def FnExactHyperOfUptoSaid : Prop := fnExactHyperOfUptoRow.holds Try.pinned (OpenSpec.upto fnExactHyperOfSpec)

/-- 'laws.FnCompareSame', WHERE WHAT IT READS IS OF BULK AT MOST 1048576: true; the input reads as it did. -/
def fnCompareSameUptoRow : OpenClaim := { program := "ytkgaimagkjpfcaa", sum := "518b9257e9cab49bbc4234357b0d656a1bbe2748eb3662bf7861f0dd4f64643b", func := "loop.example/dualmodes/laws.FnCompareSame", spec := "fnCompareSame", apart := false, narrowed := true }
def FnCompareSameUptoSaid : Prop := fnCompareSameUptoRow.holds Try.pinned (OpenSpec.upto fnCompareSameSpec)

/-- 'laws.FnCompareShares', WHERE WHAT IT READS IS OF BULK AT MOST 1048576: true; the input reads as it did. -/
def fnCompareSharesUptoRow : OpenClaim := { program := "ytkgaimagkjpfcaa", sum := "518b9257e9cab49bbc4234357b0d656a1bbe2748eb3662bf7861f0dd4f64643b", func := "loop.example/dualmodes/laws.FnCompareShares", spec := "fnCompareShares", apart := false, narrowed := true }
def FnCompareSharesUptoSaid : Prop := fnCompareSharesUptoRow.holds Try.pinned (OpenSpec.upto fnCompareSharesSpec)

/-- 'laws.FnAddShares', WHERE WHAT IT READS IS OF BULK AT MOST 1048576: true; the input reads as it did. -/
def fnAddSharesUptoRow : OpenClaim := { program := "ytkgaimagkjpfcaa", sum := "518b9257e9cab49bbc4234357b0d656a1bbe2748eb3662bf7861f0dd4f64643b", func := "loop.example/dualmodes/laws.FnAddShares", spec := "fnAddShares", apart := false, narrowed := true }
def FnAddSharesUptoSaid : Prop := fnAddSharesUptoRow.holds Try.pinned (OpenSpec.upto fnAddSharesSpec)

/-- 'laws.FnAddMore', WHERE WHAT IT READS IS OF BULK AT MOST 1048576: true; the input reads as it did. -/
def fnAddMoreUptoRow : OpenClaim := { program := "ytkgaimagkjpfcaa", sum := "518b9257e9cab49bbc4234357b0d656a1bbe2748eb3662bf7861f0dd4f64643b", func := "loop.example/dualmodes/laws.FnAddMore", spec := "fnAddMore", apart := false, narrowed := true }
def FnAddMoreUptoSaid : Prop := fnAddMoreUptoRow.holds Try.pinned (OpenSpec.upto fnAddMoreSpec)

/-- 'laws.FnExactCriticalOf', WHERE WHAT IT READS IS OF BULK AT MOST 1048576: true; the input reads as it did. -/
def fnExactCriticalOfUptoRow : OpenClaim := { program := "ytkgaimagkjpfcaa", sum := "518b9257e9cab49bbc4234357b0d656a1bbe2748eb3662bf7861f0dd4f64643b", func := "loop.example/dualmodes/laws.FnExactCriticalOf", spec := "fnExactCriticalOf", apart := false, narrowed := true }
def FnExactCriticalOfUptoSaid : Prop := fnExactCriticalOfUptoRow.holds Try.pinned (OpenSpec.upto fnExactCriticalOfSpec)

end Rows
end Go.Proofs.Ytkgaimagkjpfcaa
