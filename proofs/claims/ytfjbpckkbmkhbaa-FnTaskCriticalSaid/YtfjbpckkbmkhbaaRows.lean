/-
  No cell of these rows narrows 'for every input' (looked for: loops, veiled, ifaces, maps, wideKeys, modest, calm, conditions, laid).
  DERIVED. THE GIVEN ROWS OF THIS SEAT. 12 by the template 'for every input the law returns true; each argument reads behind the call as it read before'; 0 by the template 'total and deterministic' (their statements: YtfjbpckkbmkhbaaTotals.lean).
  GIVEN WITH THE SEED: the statements are not yours to turn. If you find one false, say at which input.
  Laid BY PROGRAM, IN A SANDBOX (cutbox-rows.mjs): the forced cells as the released guide's own fill.sh prints them over the translation 44cbd3fdce449f04… (all of the seat's roots in one cut). By AI agents, Wed Nov 11 2026. No macro, syntax, notation, axiom, sorry.
-/
import Derived.Test.YtfjbpckkbmkhbaaChecked
import GoSem.Claim
import GoSem.ClaimJoined
import GoSem.ClaimMapViews
import Derived.JoinedTies
import Derived.KernelRfl
namespace Go.Proofs.Ytfjbpckkbmkhbaa
/- THE CELL 'sum', in the pinned program and in every row, IS THE sha256 OF THE DUMP (.gsa) THAT YtfjbpckkbmkhbaaProg.lean LOADS. Nothing in Lean hashes anything: it is a label: what it is worth is what the hold of that sum in a sandbox is worth. -/
noncomputable def Try.pinned : Pinned := { name := "ytfjbpckkbmkhbaa", sum := "44cbd3fdce449f042ff491746ea4cf207b3fefd04a342093aa3c4b5c5de77e1a", checked := Try.checked }
namespace Rows
def none {H : Type} : Left H := { results := [], args := [] }

/-- 'laws.FnExactConstants': WHATEVER THE INPUT: true; the input reads as it did. -/
def fnExactConstantsSpec : ChangeSpec := { name := "fnExactConstants", fn := fun _ => fun
  | [] => { results := [.lit (.bool true)], args := [] }
  | _ => none }
def fnExactConstantsRow : OpenClaim := { program := "ytfjbpckkbmkhbaa", sum := "44cbd3fdce449f042ff491746ea4cf207b3fefd04a342093aa3c4b5c5de77e1a", func := "loop.example/dualmodes/laws.FnExactConstants", spec := "fnExactConstants", apart := false }
def FnExactConstantsSaid : Prop := fnExactConstantsRow.holds Try.pinned (OpenSpec.ofChange fnExactConstantsSpec)

/-- ITS FALSE NEIGHBOUR: 'it returns false'. Refute it at one input. -/
def fnExactConstantsWrong : ChangeSpec := { name := "fnExactConstants", fn := fun _ => fun
  | [] => { results := [.lit (.bool false)], args := [] }
  | _ => none }
def FnExactConstantsWrongFalsely : Prop := fnExactConstantsRow.holds Try.pinned (OpenSpec.ofChange fnExactConstantsWrong)

/-- 'laws.FnExactTaskValid': WHATEVER THE INPUT: true; the input reads as it did. -/
def fnExactTaskValidSpec : ChangeSpec := { name := "fnExactTaskValid", fn := fun _ => fun
  | [d] => { results := [.lit (.bool true)], args := [d] }
  | _ => none }
def fnExactTaskValidRow : OpenClaim := { program := "ytfjbpckkbmkhbaa", sum := "44cbd3fdce449f042ff491746ea4cf207b3fefd04a342093aa3c4b5c5de77e1a", func := "loop.example/dualmodes/laws.FnExactTaskValid", spec := "fnExactTaskValid", apart := false }
def FnExactTaskValidSaid : Prop := fnExactTaskValidRow.holds Try.pinned (OpenSpec.ofChange fnExactTaskValidSpec)

/-- ITS FALSE NEIGHBOUR: 'it returns false'. Refute it at one input. -/
def fnExactTaskValidWrong : ChangeSpec := { name := "fnExactTaskValid", fn := fun _ => fun
  | [d] => { results := [.lit (.bool false)], args := [d] }
  | _ => none }
def FnExactTaskValidWrongFalsely : Prop := fnExactTaskValidRow.holds Try.pinned (OpenSpec.ofChange fnExactTaskValidWrong)

/-- 'laws.FnExactMakeShare': WHATEVER THE INPUT: true; the input reads as it did. -/
def fnExactMakeShareSpec : ChangeSpec := { name := "fnExactMakeShare", fn := fun _ => fun
  | [d1, d2] => { results := [.lit (.bool true)], args := [d1, d2] }
  | _ => none }
def fnExactMakeShareRow : OpenClaim := { program := "ytfjbpckkbmkhbaa", sum := "44cbd3fdce449f042ff491746ea4cf207b3fefd04a342093aa3c4b5c5de77e1a", func := "loop.example/dualmodes/laws.FnExactMakeShare", spec := "fnExactMakeShare", apart := false }
def FnExactMakeShareSaid : Prop := fnExactMakeShareRow.holds Try.pinned (OpenSpec.ofChange fnExactMakeShareSpec)

/-- ITS FALSE NEIGHBOUR: 'it returns false'. Refute it at one input. -/
def fnExactMakeShareWrong : ChangeSpec := { name := "fnExactMakeShare", fn := fun _ => fun
  | [d1, d2] => { results := [.lit (.bool false)], args := [d1, d2] }
  | _ => none }
def FnExactMakeShareWrongFalsely : Prop := fnExactMakeShareRow.holds Try.pinned (OpenSpec.ofChange fnExactMakeShareWrong)

/-- 'laws.FnExactDemandOf': WHATEVER THE INPUT: true; the input reads as it did. -/
def fnExactDemandOfSpec : ChangeSpec := { name := "fnExactDemandOf", fn := fun _ => fun
  | [d1, d2, d3] => { results := [.lit (.bool true)], args := [d1, d2, d3] }
  | _ => none }
def fnExactDemandOfRow : OpenClaim := { program := "ytfjbpckkbmkhbaa", sum := "44cbd3fdce449f042ff491746ea4cf207b3fefd04a342093aa3c4b5c5de77e1a", func := "loop.example/dualmodes/laws.FnExactDemandOf", spec := "fnExactDemandOf", apart := false }
def FnExactDemandOfSaid : Prop := fnExactDemandOfRow.holds Try.pinned (OpenSpec.ofChange fnExactDemandOfSpec)

/-- ITS FALSE NEIGHBOUR: 'it returns false'. Refute it at one input. -/
def fnExactDemandOfWrong : ChangeSpec := { name := "fnExactDemandOf", fn := fun _ => fun
  | [d1, d2, d3] => { results := [.lit (.bool false)], args := [d1, d2, d3] }
  | _ => none }
def FnExactDemandOfWrongFalsely : Prop := fnExactDemandOfRow.holds Try.pinned (OpenSpec.ofChange fnExactDemandOfWrong)

/-- 'laws.FnExactShareValid': WHATEVER THE INPUT: true; the input reads as it did. -/
def fnExactShareValidSpec : ChangeSpec := { name := "fnExactShareValid", fn := fun _ => fun
  | [d] => { results := [.lit (.bool true)], args := [d] }
  | _ => none }
def fnExactShareValidRow : OpenClaim := { program := "ytfjbpckkbmkhbaa", sum := "44cbd3fdce449f042ff491746ea4cf207b3fefd04a342093aa3c4b5c5de77e1a", func := "loop.example/dualmodes/laws.FnExactShareValid", spec := "fnExactShareValid", apart := false }
def FnExactShareValidSaid : Prop := fnExactShareValidRow.holds Try.pinned (OpenSpec.ofChange fnExactShareValidSpec)

/-- ITS FALSE NEIGHBOUR: 'it returns false'. Refute it at one input. -/
def fnExactShareValidWrong : ChangeSpec := { name := "fnExactShareValid", fn := fun _ => fun
  | [d] => { results := [.lit (.bool false)], args := [d] }
  | _ => none }
def FnExactShareValidWrongFalsely : Prop := fnExactShareValidRow.holds Try.pinned (OpenSpec.ofChange fnExactShareValidWrong)

/-- 'laws.FnShareTwice': WHATEVER THE INPUT: true; the input reads as it did. -/
def fnShareTwiceSpec : ChangeSpec := { name := "fnShareTwice", fn := fun _ => fun
  | [d] => { results := [.lit (.bool true)], args := [d] }
  | _ => none }
def fnShareTwiceRow : OpenClaim := { program := "ytfjbpckkbmkhbaa", sum := "44cbd3fdce449f042ff491746ea4cf207b3fefd04a342093aa3c4b5c5de77e1a", func := "loop.example/dualmodes/laws.FnShareTwice", spec := "fnShareTwice", apart := false }
def FnShareTwiceSaid : Prop := fnShareTwiceRow.holds Try.pinned (OpenSpec.ofChange fnShareTwiceSpec)

/-- ITS FALSE NEIGHBOUR: 'it returns false'. Refute it at one input. -/
def fnShareTwiceWrong : ChangeSpec := { name := "fnShareTwice", fn := fun _ => fun
  | [d] => { results := [.lit (.bool false)], args := [d] }
  | _ => none }
def FnShareTwiceWrongFalsely : Prop := fnShareTwiceRow.holds Try.pinned (OpenSpec.ofChange fnShareTwiceWrong)

/-- 'laws.FnMakeShare': WHATEVER THE INPUT: true; the input reads as it did. -/
def fnMakeShareSpec : ChangeSpec := { name := "fnMakeShare", fn := fun _ => fun
  | [d] => { results := [.lit (.bool true)], args := [d] }
  | _ => none }
def fnMakeShareRow : OpenClaim := { program := "ytfjbpckkbmkhbaa", sum := "44cbd3fdce449f042ff491746ea4cf207b3fefd04a342093aa3c4b5c5de77e1a", func := "loop.example/dualmodes/laws.FnMakeShare", spec := "fnMakeShare", apart := false }
def FnMakeShareSaid : Prop := fnMakeShareRow.holds Try.pinned (OpenSpec.ofChange fnMakeShareSpec)

/-- ITS FALSE NEIGHBOUR: 'it returns false'. Refute it at one input. -/
def fnMakeShareWrong : ChangeSpec := { name := "fnMakeShare", fn := fun _ => fun
  | [d] => { results := [.lit (.bool false)], args := [d] }
  | _ => none }
def FnMakeShareWrongFalsely : Prop := fnMakeShareRow.holds Try.pinned (OpenSpec.ofChange fnMakeShareWrong)

/-- 'laws.FnTaskCritical': WHATEVER THE INPUT: true; the input reads as it did. -/
def fnTaskCriticalSpec : ChangeSpec := { name := "fnTaskCritical", fn := fun _ => fun
  | [d] => { results := [.lit (.bool true)], args := [d] }
  | _ => none }
def fnTaskCriticalRow : OpenClaim := { program := "ytfjbpckkbmkhbaa", sum := "44cbd3fdce449f042ff491746ea4cf207b3fefd04a342093aa3c4b5c5de77e1a", func := "loop.example/dualmodes/laws.FnTaskCritical", spec := "fnTaskCritical", apart := false }
def FnTaskCriticalSaid : Prop := fnTaskCriticalRow.holds Try.pinned (OpenSpec.ofChange fnTaskCriticalSpec)

/-- ITS FALSE NEIGHBOUR: 'it returns false'. Refute it at one input. -/
def fnTaskCriticalWrong : ChangeSpec := { name := "fnTaskCritical", fn := fun _ => fun
  | [d] => { results := [.lit (.bool false)], args := [d] }
  | _ => none }
def FnTaskCriticalWrongFalsely : Prop := fnTaskCriticalRow.holds Try.pinned (OpenSpec.ofChange fnTaskCriticalWrong)

/-- 'laws.FnTaskMore': WHATEVER THE INPUT: true; the input reads as it did. -/
def fnTaskMoreSpec : ChangeSpec := { name := "fnTaskMore", fn := fun _ => fun
  | [d] => { results := [.lit (.bool true)], args := [d] }
  | _ => none }
def fnTaskMoreRow : OpenClaim := { program := "ytfjbpckkbmkhbaa", sum := "44cbd3fdce449f042ff491746ea4cf207b3fefd04a342093aa3c4b5c5de77e1a", func := "loop.example/dualmodes/laws.FnTaskMore", spec := "fnTaskMore", apart := false }
def FnTaskMoreSaid : Prop := fnTaskMoreRow.holds Try.pinned (OpenSpec.ofChange fnTaskMoreSpec)

/-- ITS FALSE NEIGHBOUR: 'it returns false'. Refute it at one input. -/
def fnTaskMoreWrong : ChangeSpec := { name := "fnTaskMore", fn := fun _ => fun
  | [d] => { results := [.lit (.bool false)], args := [d] }
  | _ => none }
def FnTaskMoreWrongFalsely : Prop := fnTaskMoreRow.holds Try.pinned (OpenSpec.ofChange fnTaskMoreWrong)

/-- 'laws.FnShareValid': WHATEVER THE INPUT: true; the input reads as it did. -/
def fnShareValidSpec : ChangeSpec := { name := "fnShareValid", fn := fun _ => fun
  | [d] => { results := [.lit (.bool true)], args := [d] }
  | _ => none }
def fnShareValidRow : OpenClaim := { program := "ytfjbpckkbmkhbaa", sum := "44cbd3fdce449f042ff491746ea4cf207b3fefd04a342093aa3c4b5c5de77e1a", func := "loop.example/dualmodes/laws.FnShareValid", spec := "fnShareValid", apart := false }
def FnShareValidSaid : Prop := fnShareValidRow.holds Try.pinned (OpenSpec.ofChange fnShareValidSpec)

/-- ITS FALSE NEIGHBOUR: 'it returns false'. Refute it at one input. -/
def fnShareValidWrong : ChangeSpec := { name := "fnShareValid", fn := fun _ => fun
  | [d] => { results := [.lit (.bool false)], args := [d] }
  | _ => none }
def FnShareValidWrongFalsely : Prop := fnShareValidRow.holds Try.pinned (OpenSpec.ofChange fnShareValidWrong)

/-- 'laws.FnExactSetValid': WHATEVER THE INPUT: true; the input reads as it did. -/
def fnExactSetValidSpec : ChangeSpec := { name := "fnExactSetValid", fn := fun _ => fun
  | [d] => { results := [.lit (.bool true)], args := [d] }
  | _ => none }
def fnExactSetValidRow : OpenClaim := { program := "ytfjbpckkbmkhbaa", sum := "44cbd3fdce449f042ff491746ea4cf207b3fefd04a342093aa3c4b5c5de77e1a", func := "loop.example/dualmodes/laws.FnExactSetValid", spec := "fnExactSetValid", apart := false }
def FnExactSetValidSaid : Prop := fnExactSetValidRow.holds Try.pinned (OpenSpec.ofChange fnExactSetValidSpec)

/-- ITS FALSE NEIGHBOUR: 'it returns false'. Refute it at one input. -/
def fnExactSetValidWrong : ChangeSpec := { name := "fnExactSetValid", fn := fun _ => fun
  | [d] => { results := [.lit (.bool false)], args := [d] }
  | _ => none }
def FnExactSetValidWrongFalsely : Prop := fnExactSetValidRow.holds Try.pinned (OpenSpec.ofChange fnExactSetValidWrong)

/-- 'laws.FnExactAddShares': WHATEVER THE INPUT: true; the input reads as it did. -/
def fnExactAddSharesSpec : ChangeSpec := { name := "fnExactAddShares", fn := fun _ => fun
  | [d1, d2] => { results := [.lit (.bool true)], args := [d1, d2] }
  | _ => none }
def fnExactAddSharesRow : OpenClaim := { program := "ytfjbpckkbmkhbaa", sum := "44cbd3fdce449f042ff491746ea4cf207b3fefd04a342093aa3c4b5c5de77e1a", func := "loop.example/dualmodes/laws.FnExactAddShares", spec := "fnExactAddShares", apart := false }
def FnExactAddSharesSaid : Prop := fnExactAddSharesRow.holds Try.pinned (OpenSpec.ofChange fnExactAddSharesSpec)

/-- ITS FALSE NEIGHBOUR: 'it returns false'. Refute it at one input. -/
def fnExactAddSharesWrong : ChangeSpec := { name := "fnExactAddShares", fn := fun _ => fun
  | [d1, d2] => { results := [.lit (.bool false)], args := [d1, d2] }
  | _ => none }
def FnExactAddSharesWrongFalsely : Prop := fnExactAddSharesRow.holds Try.pinned (OpenSpec.ofChange fnExactAddSharesWrong)

/- THE SECOND FORM. 'bulk': how many values and letters a reading holds, each counted each time it is reached (what is shared counts as often as it is met; a slice's spare places count too). A statement '..UptoSaid' is the law's where the arguments, and the package variables that the reading takes, are together of bulk at most 1048576: NARROWER than '..Said'. Prove '..Said' where nothing that the law and all that it calls make is longer than what came in: it says more and counts as full. Else prove '..UptoSaid'. A law counts once. -/
mutual
def uptoBulk {H : Type} : DataW H → Nat
  | .lit (.string bytes) => bytes.length + 1
  | .lit _ => 1
  | .nil => 1
  | .ptr d => uptoBulk d + 1
  | .slice elems spare => uptoBulkAll elems + uptoBulkAll spare + 1
  | .agg parts => uptoBulkAll parts + 1
  | .iface _ d => uptoBulk d + 1
  | .map entries => uptoBulkEntries entries + 1
  | .held _ => 1
def uptoBulkAll {H : Type} : List (DataW H) → Nat
  | [] => 0
  | d :: r => uptoBulk d + uptoBulkAll r
def uptoBulkEntries {H : Type} : List (Lit × DataW H) → Nat
  | [] => 0
  | x :: r => uptoBulkEntry x + uptoBulkEntries r
def uptoBulkEntry {H : Type} : Lit × DataW H → Nat
  | (.string bytes, d) => bytes.length + uptoBulk d + 1
  | (_, d) => uptoBulk d + 1
 end
def uptoSmall : (H : Type) → List (DataW H) → Bool := fun _ ds => decide (uptoBulkAll ds ≤ 1048576)
def OpenSpec.upto (s : _root_.Go.ChangeSpec) : _root_.Go.OpenSpec := { _root_.Go.OpenSpec.ofChange s with cond := some uptoSmall }

/-- 'laws.FnExactConstants', WHERE WHAT IT READS IS OF BULK AT MOST 1048576: true; the input reads as it did. -/
def fnExactConstantsUptoRow : OpenClaim := { program := "ytfjbpckkbmkhbaa", sum := "44cbd3fdce449f042ff491746ea4cf207b3fefd04a342093aa3c4b5c5de77e1a", func := "loop.example/dualmodes/laws.FnExactConstants", spec := "fnExactConstants", apart := false, narrowed := true }
def FnExactConstantsUptoSaid : Prop := fnExactConstantsUptoRow.holds Try.pinned (OpenSpec.upto fnExactConstantsSpec)

/-- 'laws.FnExactTaskValid', WHERE WHAT IT READS IS OF BULK AT MOST 1048576: true; the input reads as it did. -/
def fnExactTaskValidUptoRow : OpenClaim := { program := "ytfjbpckkbmkhbaa", sum := "44cbd3fdce449f042ff491746ea4cf207b3fefd04a342093aa3c4b5c5de77e1a", func := "loop.example/dualmodes/laws.FnExactTaskValid", spec := "fnExactTaskValid", apart := false, narrowed := true }
def FnExactTaskValidUptoSaid : Prop := fnExactTaskValidUptoRow.holds Try.pinned (OpenSpec.upto fnExactTaskValidSpec)

/-- 'laws.FnExactMakeShare', WHERE WHAT IT READS IS OF BULK AT MOST 1048576: true; the input reads as it did. -/
def fnExactMakeShareUptoRow : OpenClaim := { program := "ytfjbpckkbmkhbaa", sum := "44cbd3fdce449f042ff491746ea4cf207b3fefd04a342093aa3c4b5c5de77e1a", func := "loop.example/dualmodes/laws.FnExactMakeShare", spec := "fnExactMakeShare", apart := false, narrowed := true }
def FnExactMakeShareUptoSaid : Prop := fnExactMakeShareUptoRow.holds Try.pinned (OpenSpec.upto fnExactMakeShareSpec)

/-- 'laws.FnExactDemandOf', WHERE WHAT IT READS IS OF BULK AT MOST 1048576: true; the input reads as it did. -/
def fnExactDemandOfUptoRow : OpenClaim := { program := "ytfjbpckkbmkhbaa", sum := "44cbd3fdce449f042ff491746ea4cf207b3fefd04a342093aa3c4b5c5de77e1a", func := "loop.example/dualmodes/laws.FnExactDemandOf", spec := "fnExactDemandOf", apart := false, narrowed := true }
def FnExactDemandOfUptoSaid : Prop := fnExactDemandOfUptoRow.holds Try.pinned (OpenSpec.upto fnExactDemandOfSpec)

/-- 'laws.FnExactShareValid', WHERE WHAT IT READS IS OF BULK AT MOST 1048576: true; the input reads as it did. -/
def fnExactShareValidUptoRow : OpenClaim := { program := "ytfjbpckkbmkhbaa", sum := "44cbd3fdce449f042ff491746ea4cf207b3fefd04a342093aa3c4b5c5de77e1a", func := "loop.example/dualmodes/laws.FnExactShareValid", spec := "fnExactShareValid", apart := false, narrowed := true }
def FnExactShareValidUptoSaid : Prop := fnExactShareValidUptoRow.holds Try.pinned (OpenSpec.upto fnExactShareValidSpec)

/-- 'laws.FnShareTwice', WHERE WHAT IT READS IS OF BULK AT MOST 1048576: true; the input reads as it did. -/
def fnShareTwiceUptoRow : OpenClaim := { program := "ytfjbpckkbmkhbaa", sum := "44cbd3fdce449f042ff491746ea4cf207b3fefd04a342093aa3c4b5c5de77e1a", func := "loop.example/dualmodes/laws.FnShareTwice", spec := "fnShareTwice", apart := false, narrowed := true }
def FnShareTwiceUptoSaid : Prop := fnShareTwiceUptoRow.holds Try.pinned (OpenSpec.upto fnShareTwiceSpec)

/-- 'laws.FnMakeShare', WHERE WHAT IT READS IS OF BULK AT MOST 1048576: true; the input reads as it did. -/
def fnMakeShareUptoRow : OpenClaim := { program := "ytfjbpckkbmkhbaa", sum := "44cbd3fdce449f042ff491746ea4cf207b3fefd04a342093aa3c4b5c5de77e1a", func := "loop.example/dualmodes/laws.FnMakeShare", spec := "fnMakeShare", apart := false, narrowed := true }
def FnMakeShareUptoSaid : Prop := fnMakeShareUptoRow.holds Try.pinned (OpenSpec.upto fnMakeShareSpec)

/-- 'laws.FnTaskCritical', WHERE WHAT IT READS IS OF BULK AT MOST 1048576: true; the input reads as it did. -/
def fnTaskCriticalUptoRow : OpenClaim := { program := "ytfjbpckkbmkhbaa", sum := "44cbd3fdce449f042ff491746ea4cf207b3fefd04a342093aa3c4b5c5de77e1a", func := "loop.example/dualmodes/laws.FnTaskCritical", spec := "fnTaskCritical", apart := false, narrowed := true }
def FnTaskCriticalUptoSaid : Prop := fnTaskCriticalUptoRow.holds Try.pinned (OpenSpec.upto fnTaskCriticalSpec)

/-- 'laws.FnTaskMore', WHERE WHAT IT READS IS OF BULK AT MOST 1048576: true; the input reads as it did. -/
def fnTaskMoreUptoRow : OpenClaim := { program := "ytfjbpckkbmkhbaa", sum := "44cbd3fdce449f042ff491746ea4cf207b3fefd04a342093aa3c4b5c5de77e1a", func := "loop.example/dualmodes/laws.FnTaskMore", spec := "fnTaskMore", apart := false, narrowed := true }
def FnTaskMoreUptoSaid : Prop := fnTaskMoreUptoRow.holds Try.pinned (OpenSpec.upto fnTaskMoreSpec)

/-- 'laws.FnShareValid', WHERE WHAT IT READS IS OF BULK AT MOST 1048576: true; the input reads as it did. -/
def fnShareValidUptoRow : OpenClaim := { program := "ytfjbpckkbmkhbaa", sum := "44cbd3fdce449f042ff491746ea4cf207b3fefd04a342093aa3c4b5c5de77e1a", func := "loop.example/dualmodes/laws.FnShareValid", spec := "fnShareValid", apart := false, narrowed := true }
def FnShareValidUptoSaid : Prop := fnShareValidUptoRow.holds Try.pinned (OpenSpec.upto fnShareValidSpec)

/-- 'laws.FnExactSetValid', WHERE WHAT IT READS IS OF BULK AT MOST 1048576: true; the input reads as it did. -/
def fnExactSetValidUptoRow : OpenClaim := { program := "ytfjbpckkbmkhbaa", sum := "44cbd3fdce449f042ff491746ea4cf207b3fefd04a342093aa3c4b5c5de77e1a", func := "loop.example/dualmodes/laws.FnExactSetValid", spec := "fnExactSetValid", apart := false, narrowed := true }
def FnExactSetValidUptoSaid : Prop := fnExactSetValidUptoRow.holds Try.pinned (OpenSpec.upto fnExactSetValidSpec)

/-- 'laws.FnExactAddShares', WHERE WHAT IT READS IS OF BULK AT MOST 1048576: true; the input reads as it did. -/
def fnExactAddSharesUptoRow : OpenClaim := { program := "ytfjbpckkbmkhbaa", sum := "44cbd3fdce449f042ff491746ea4cf207b3fefd04a342093aa3c4b5c5de77e1a", func := "loop.example/dualmodes/laws.FnExactAddShares", spec := "fnExactAddShares", apart := false, narrowed := true }
def FnExactAddSharesUptoSaid : Prop := fnExactAddSharesUptoRow.holds Try.pinned (OpenSpec.upto fnExactAddSharesSpec)

end Rows
end Go.Proofs.Ytfjbpckkbmkhbaa
