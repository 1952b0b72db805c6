/-
  No cell of these rows narrows 'for every input' (looked for: loops, veiled, ifaces, maps, wideKeys, modest, calm, conditions, laid).
  DERIVED. THE GIVEN ROWS OF THIS SEAT. 5 by the template 'for every input the law returns true; each argument reads behind the call as it read before'; 0 by the template 'total and deterministic' (their statements: YtbcionecepdkfaaTotals.lean).
  GIVEN WITH THE SEED: the statements are not yours to turn. If you find one false, say at which input.
  Laid BY PROGRAM, IN A SANDBOX (cutbox-rows.mjs): the forced cells as the released guide's own fill.sh prints them over the translation f4a811fc717e8f4c… (all of the seat's roots in one cut). By AI agents, Wed Nov 11 2026. No macro, syntax, notation, axiom, sorry.
-/
import Derived.Test.YtbcionecepdkfaaChecked
import GoSem.Claim
import GoSem.ClaimJoined
import GoSem.ClaimMapViews
import Derived.JoinedTies
import Derived.KernelRfl
namespace Go.Proofs.Ytbcionecepdkfaa
/- THE CELL 'sum', in the pinned program and in every row, IS THE sha256 OF THE DUMP (.gsa) THAT YtbcionecepdkfaaProg.lean LOADS. Nothing in Lean hashes anything: it is a label: what it is worth is what the hold of that sum in a sandbox is worth. -/
noncomputable def Try.pinned : Pinned := { name := "ytbcionecepdkfaa", sum := "f4a811fc717e8f4cee5f057f9f5368992951460b4fe590974d26bba6174d16ed", checked := Try.checked }
namespace Rows
def none {H : Type} : Left H := { results := [], args := [] }

/-- 'laws.FnSortStable': WHATEVER THE INPUT: true; the input reads as it did. -/
def fnSortStableSpec : ChangeSpec := { name := "fnSortStable", fn := fun _ => fun
  | [d] => { results := [.lit (.bool true)], args := [d] }
  | _ => none }
def fnSortStableRow : OpenClaim := { program := "ytbcionecepdkfaa", sum := "f4a811fc717e8f4cee5f057f9f5368992951460b4fe590974d26bba6174d16ed", func := "loop.example/dualmodes/laws.FnSortStable", spec := "fnSortStable", unfollowed := true, recurses := true, apart := false }
def FnSortStableSaid : Prop := fnSortStableRow.holds Try.pinned (OpenSpec.ofChange fnSortStableSpec)

/-- ITS FALSE NEIGHBOUR: 'it returns false'. Refute it at one input. -/
def fnSortStableWrong : ChangeSpec := { name := "fnSortStable", fn := fun _ => fun
  | [d] => { results := [.lit (.bool false)], args := [d] }
  | _ => none }
def FnSortStableWrongFalsely : Prop := fnSortStableRow.holds Try.pinned (OpenSpec.ofChange fnSortStableWrong)

/-- 'laws.FnCriticalSort': WHATEVER THE INPUT: true; the input reads as it did. -/
def fnCriticalSortSpec : ChangeSpec := { name := "fnCriticalSort", fn := fun _ => fun
  | [d] => { results := [.lit (.bool true)], args := [d] }
  | _ => none }
def fnCriticalSortRow : OpenClaim := { program := "ytbcionecepdkfaa", sum := "f4a811fc717e8f4cee5f057f9f5368992951460b4fe590974d26bba6174d16ed", func := "loop.example/dualmodes/laws.FnCriticalSort", spec := "fnCriticalSort", unfollowed := true, recurses := true, apart := false }
def FnCriticalSortSaid : Prop := fnCriticalSortRow.holds Try.pinned (OpenSpec.ofChange fnCriticalSortSpec)

/-- ITS FALSE NEIGHBOUR: 'it returns false'. Refute it at one input. -/
def fnCriticalSortWrong : ChangeSpec := { name := "fnCriticalSort", fn := fun _ => fun
  | [d] => { results := [.lit (.bool false)], args := [d] }
  | _ => none }
def FnCriticalSortWrongFalsely : Prop := fnCriticalSortRow.holds Try.pinned (OpenSpec.ofChange fnCriticalSortWrong)

/-- 'laws.FnExactSortDue': WHATEVER THE INPUT: true; the input reads as it did. -/
def fnExactSortDueSpec : ChangeSpec := { name := "fnExactSortDue", fn := fun _ => fun
  | [d] => { results := [.lit (.bool true)], args := [d] }
  | _ => none }
def fnExactSortDueRow : OpenClaim := { program := "ytbcionecepdkfaa", sum := "f4a811fc717e8f4cee5f057f9f5368992951460b4fe590974d26bba6174d16ed", func := "loop.example/dualmodes/laws.FnExactSortDue", spec := "fnExactSortDue", unfollowed := true, recurses := true, apart := false }
def FnExactSortDueSaid : Prop := fnExactSortDueRow.holds Try.pinned (OpenSpec.ofChange fnExactSortDueSpec)

/-- ITS FALSE NEIGHBOUR: 'it returns false'. Refute it at one input. -/
def fnExactSortDueWrong : ChangeSpec := { name := "fnExactSortDue", fn := fun _ => fun
  | [d] => { results := [.lit (.bool false)], args := [d] }
  | _ => none }
def FnExactSortDueWrongFalsely : Prop := fnExactSortDueRow.holds Try.pinned (OpenSpec.ofChange fnExactSortDueWrong)

/-- 'laws.FnSortDue': WHATEVER THE INPUT: true; the input reads as it did. -/
def fnSortDueSpec : ChangeSpec := { name := "fnSortDue", fn := fun _ => fun
  | [d] => { results := [.lit (.bool true)], args := [d] }
  | _ => none }
def fnSortDueRow : OpenClaim := { program := "ytbcionecepdkfaa", sum := "f4a811fc717e8f4cee5f057f9f5368992951460b4fe590974d26bba6174d16ed", func := "loop.example/dualmodes/laws.FnSortDue", spec := "fnSortDue", unfollowed := true, recurses := true, apart := false }
def FnSortDueSaid : Prop := fnSortDueRow.holds Try.pinned (OpenSpec.ofChange fnSortDueSpec)

/-- ITS FALSE NEIGHBOUR: 'it returns false'. Refute it at one input. -/
def fnSortDueWrong : ChangeSpec := { name := "fnSortDue", fn := fun _ => fun
  | [d] => { results := [.lit (.bool false)], args := [d] }
  | _ => none }
def FnSortDueWrongFalsely : Prop := fnSortDueRow.holds Try.pinned (OpenSpec.ofChange fnSortDueWrong)

/-- 'laws.FnShareSort': WHATEVER THE INPUT: true; the input reads as it did. -/
def fnShareSortSpec : ChangeSpec := { name := "fnShareSort", fn := fun _ => fun
  | [d] => { results := [.lit (.bool true)], args := [d] }
  | _ => none }
def fnShareSortRow : OpenClaim := { program := "ytbcionecepdkfaa", sum := "f4a811fc717e8f4cee5f057f9f5368992951460b4fe590974d26bba6174d16ed", func := "loop.example/dualmodes/laws.FnShareSort", spec := "fnShareSort", unfollowed := true, recurses := true, apart := false }
def FnShareSortSaid : Prop := fnShareSortRow.holds Try.pinned (OpenSpec.ofChange fnShareSortSpec)

/-- ITS FALSE NEIGHBOUR: 'it returns false'. Refute it at one input. -/
def fnShareSortWrong : ChangeSpec := { name := "fnShareSort", fn := fun _ => fun
  | [d] => { results := [.lit (.bool false)], args := [d] }
  | _ => none }
def FnShareSortWrongFalsely : Prop := fnShareSortRow.holds Try.pinned (OpenSpec.ofChange fnShareSortWrong)

/- THE SECOND FORM. 'bulk': how many values and letters a reading holds, each counted each time it is reached (what is shared counts as often as it is met; a slice's spare places count too). A statement '..UptoSaid' is the law's where the arguments, and the package variables that the reading takes, are together of bulk at most 1048576: NARROWER than '..Said'. Prove '..Said' where nothing that the law and all that it calls make is longer than what came in: it says more and counts as full. Else prove '..UptoSaid'. A law counts once. -/
mutual
def uptoBulk {H : Type} : DataW H → Nat
  | .lit (.string bytes) => bytes.length + 1
  | .lit _ => 1
  | .nil => 1
  | .ptr d => uptoBulk d + 1
  | .slice elems spare => uptoBulkAll elems + uptoBulkAll spare + 1
  | .agg parts => uptoBulkAll parts + 1
  | .iface _ d => uptoBulk d + 1
  | .map entries => uptoBulkEntries entries + 1
  | .held _ => 1
def uptoBulkAll {H : Type} : List (DataW H) → Nat
  | [] => 0
  | d :: r => uptoBulk d + uptoBulkAll r
def uptoBulkEntries {H : Type} : List (Lit × DataW H) → Nat
  | [] => 0
  | x :: r => uptoBulkEntry x + uptoBulkEntries r
def uptoBulkEntry {H : Type} : Lit × DataW H → Nat
  | (.string bytes, d) => bytes.length + uptoBulk d + 1
  | (_, d) => uptoBulk d + 1
 end
def uptoSmall : (H : Type) → List (DataW H) → Bool := fun _ ds => decide (uptoBulkAll ds ≤ 1048576)
def OpenSpec.upto (s : _root_.Go.ChangeSpec) : _root_.Go.OpenSpec := { _root_.Go.OpenSpec.ofChange s with cond := some uptoSmall }

/-- 'laws.FnSortStable', WHERE WHAT IT READS IS OF BULK AT MOST 1048576: true; the input reads as it did. -/
def fnSortStableUptoRow : OpenClaim := { program := "ytbcionecepdkfaa", sum := "f4a811fc717e8f4cee5f057f9f5368992951460b4fe590974d26bba6174d16ed", func := "loop.example/dualmodes/laws.FnSortStable", spec := "fnSortStable", unfollowed := true, recurses := true, apart := false, narrowed := true }
def FnSortStableUptoSaid : Prop := fnSortStableUptoRow.holds Try.pinned (OpenSpec.upto fnSortStableSpec)

/-- 'laws.FnCriticalSort', WHERE WHAT IT READS IS OF BULK AT MOST 1048576: true; the input reads as it did. -/
def fnCriticalSortUptoRow : OpenClaim := { program := "ytbcionecepdkfaa", sum := "f4a811fc717e8f4cee5f057f9f5368992951460b4fe590974d26bba6174d16ed", func := "loop.example/dualmodes/laws.FnCriticalSort", spec := "fnCriticalSort", unfollowed := true, recurses := true, apart := false, narrowed := true }
def FnCriticalSortUptoSaid : Prop := fnCriticalSortUptoRow.holds Try.pinned (OpenSpec.upto fnCriticalSortSpec)

/-- 'laws.FnExactSortDue', WHERE WHAT IT READS IS OF BULK AT MOST 1048576: true; the input reads as it did. -/
def fnExactSortDueUptoRow : OpenClaim := { program := "ytbcionecepdkfaa", sum := "f4a811fc717e8f4cee5f057f9f5368992951460b4fe590974d26bba6174d16ed", func := "loop.example/dualmodes/laws.FnExactSortDue", spec := "fnExactSortDue", unfollowed := true, recurses := true, apart := false, narrowed := true }
def FnExactSortDueUptoSaid : Prop := fnExactSortDueUptoRow.holds Try.pinned (OpenSpec.upto fnExactSortDueSpec)

/-- 'laws.FnSortDue', WHERE WHAT IT READS IS OF BULK AT MOST 1048576: true; the input reads as it did. -/
def fnSortDueUptoRow : OpenClaim := { program := "ytbcionecepdkfaa", sum := "f4a811fc717e8f4cee5f057f9f5368992951460b4fe590974d26bba6174d16ed", func := "loop.example/dualmodes/laws.FnSortDue", spec := "fnSortDue", unfollowed := true, recurses := true, apart := false, narrowed := true }
def FnSortDueUptoSaid : Prop := fnSortDueUptoRow.holds Try.pinned (OpenSpec.upto fnSortDueSpec)

/-- 'laws.FnShareSort', WHERE WHAT IT READS IS OF BULK AT MOST 1048576: true; the input reads as it did. -/
def fnShareSortUptoRow : OpenClaim := { program := "ytbcionecepdkfaa", sum := "f4a811fc717e8f4cee5f057f9f5368992951460b4fe590974d26bba6174d16ed", func := "loop.example/dualmodes/laws.FnShareSort", spec := "fnShareSort", unfollowed := true, recurses := true, apart := false, narrowed := true }
def FnShareSortUptoSaid : Prop := fnShareSortUptoRow.holds Try.pinned (OpenSpec.upto fnShareSortSpec)

end Rows
end Go.Proofs.Ytbcionecepdkfaa
