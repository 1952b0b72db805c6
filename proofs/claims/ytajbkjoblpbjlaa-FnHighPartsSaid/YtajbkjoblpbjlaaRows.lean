/-
  No cell of these rows narrows 'for every input' (looked for: loops, veiled, ifaces, maps, wideKeys, modest, calm, conditions, laid).
  DERIVED. THE GIVEN ROWS OF THIS SEAT. 11 by the template 'for every input the law returns true; each argument reads behind the call as it read before'; 0 by the template 'total and deterministic' (their statements: YtajbkjoblpbjlaaTotals.lean).
  GIVEN WITH THE SEED: the statements are not yours to turn. If you find one false, say at which input.
  Laid BY PROGRAM, IN A SANDBOX (cutbox-rows.mjs): the forced cells as the released guide's own fill.sh prints them over the translation f9b3c4b38ac4a54f… (all of the seat's roots in one cut). By AI agents, Wed Nov 11 2026. No macro, syntax, notation, axiom, sorry.
-/
import Derived.Test.YtajbkjoblpbjlaaChecked
import GoSem.Claim
import GoSem.ClaimJoined
import GoSem.ClaimMapViews
import Derived.JoinedTies
import Derived.KernelRfl
namespace Go.Proofs.Ytajbkjoblpbjlaa
/- THE CELL 'sum', in the pinned program and in every row, IS THE sha256 OF THE DUMP (.gsa) THAT YtajbkjoblpbjlaaProg.lean LOADS. Nothing in Lean hashes anything: it is a label: what it is worth is what the hold of that sum in a sandbox is worth. -/
noncomputable def Try.pinned : Pinned := { name := "ytajbkjoblpbjlaa", sum := "f9b3c4b38ac4a54f5212c491794f62d34d48c7e8405f7d599d565e1df43a68b7", checked := Try.checked }
namespace Rows
def none {H : Type} : Left H := { results := [], args := [] }

/-- 'laws.FnExactResponseSwitch': WHATEVER THE INPUT: true; the input reads as it did. -/
def fnExactResponseSwitchSpec : ChangeSpec := { name := "fnExactResponseSwitch", fn := fun _ => fun
  | [d1, d2] => { results := [.lit (.bool true)], args := [d1, d2] }
  | _ => none }
def fnExactResponseSwitchRow : OpenClaim := { program := "ytajbkjoblpbjlaa", sum := "f9b3c4b38ac4a54f5212c491794f62d34d48c7e8405f7d599d565e1df43a68b7", func := "loop.example/dualmodes/laws.FnExactResponseSwitch", spec := "fnExactResponseSwitch", unfollowed := true, recurses := true, apart := false }
def FnExactResponseSwitchSaid : Prop := fnExactResponseSwitchRow.holds Try.pinned (OpenSpec.ofChange fnExactResponseSwitchSpec)

/-- ITS FALSE NEIGHBOUR: 'it returns false'. Refute it at one input. -/
def fnExactResponseSwitchWrong : ChangeSpec := { name := "fnExactResponseSwitch", fn := fun _ => fun
  | [d1, d2] => { results := [.lit (.bool false)], args := [d1, d2] }
  | _ => none }
def FnExactResponseSwitchWrongFalsely : Prop := fnExactResponseSwitchRow.holds Try.pinned (OpenSpec.ofChange fnExactResponseSwitchWrong)

/-- 'laws.FnExactResponseHigh': WHATEVER THE INPUT: true; the input reads as it did. -/
def fnExactResponseHighSpec : ChangeSpec := { name := "fnExactResponseHigh", fn := fun _ => fun
  | [d1, d2] => { results := [.lit (.bool true)], args := [d1, d2] }
  | _ => none }
def fnExactResponseHighRow : OpenClaim := { program := "ytajbkjoblpbjlaa", sum := "f9b3c4b38ac4a54f5212c491794f62d34d48c7e8405f7d599d565e1df43a68b7", func := "loop.example/dualmodes/laws.FnExactResponseHigh", spec := "fnExactResponseHigh", unfollowed := true, recurses := true, apart := false }
def FnExactResponseHighSaid : Prop := fnExactResponseHighRow.holds Try.pinned (OpenSpec.ofChange fnExactResponseHighSpec)

/-- ITS FALSE NEIGHBOUR: 'it returns false'. Refute it at one input. -/
def fnExactResponseHighWrong : ChangeSpec := { name := "fnExactResponseHigh", fn := fun _ => fun
  | [d1, d2] => { results := [.lit (.bool false)], args := [d1, d2] }
  | _ => none }
def FnExactResponseHighWrongFalsely : Prop := fnExactResponseHighRow.holds Try.pinned (OpenSpec.ofChange fnExactResponseHighWrong)

/-- 'laws.FnResponseMore': WHATEVER THE INPUT: true; the input reads as it did. -/
def fnResponseMoreSpec : ChangeSpec := { name := "fnResponseMore", fn := fun _ => fun
  | [d] => { results := [.lit (.bool true)], args := [d] }
  | _ => none }
def fnResponseMoreRow : OpenClaim := { program := "ytajbkjoblpbjlaa", sum := "f9b3c4b38ac4a54f5212c491794f62d34d48c7e8405f7d599d565e1df43a68b7", func := "loop.example/dualmodes/laws.FnResponseMore", spec := "fnResponseMore", unfollowed := true, recurses := true, apart := false }
def FnResponseMoreSaid : Prop := fnResponseMoreRow.holds Try.pinned (OpenSpec.ofChange fnResponseMoreSpec)

/-- ITS FALSE NEIGHBOUR: 'it returns false'. Refute it at one input. -/
def fnResponseMoreWrong : ChangeSpec := { name := "fnResponseMore", fn := fun _ => fun
  | [d] => { results := [.lit (.bool false)], args := [d] }
  | _ => none }
def FnResponseMoreWrongFalsely : Prop := fnResponseMoreRow.holds Try.pinned (OpenSpec.ofChange fnResponseMoreWrong)

/-- 'laws.FnLowParts': WHATEVER THE INPUT: true; the input reads as it did. -/
def fnLowPartsSpec : ChangeSpec := { name := "fnLowParts", fn := fun _ => fun
  | [d] => { results := [.lit (.bool true)], args := [d] }
  | _ => none }
def fnLowPartsRow : OpenClaim := { program := "ytajbkjoblpbjlaa", sum := "f9b3c4b38ac4a54f5212c491794f62d34d48c7e8405f7d599d565e1df43a68b7", func := "loop.example/dualmodes/laws.FnLowParts", spec := "fnLowParts", apart := false }
def FnLowPartsSaid : Prop := fnLowPartsRow.holds Try.pinned (OpenSpec.ofChange fnLowPartsSpec)

/-- ITS FALSE NEIGHBOUR: 'it returns false'. Refute it at one input. -/
def fnLowPartsWrong : ChangeSpec := { name := "fnLowParts", fn := fun _ => fun
  | [d] => { results := [.lit (.bool false)], args := [d] }
  | _ => none }
def FnLowPartsWrongFalsely : Prop := fnLowPartsRow.holds Try.pinned (OpenSpec.ofChange fnLowPartsWrong)

/-- 'laws.FnResponseLess': WHATEVER THE INPUT: true; the input reads as it did. -/
def fnResponseLessSpec : ChangeSpec := { name := "fnResponseLess", fn := fun _ => fun
  | [d] => { results := [.lit (.bool true)], args := [d] }
  | _ => none }
def fnResponseLessRow : OpenClaim := { program := "ytajbkjoblpbjlaa", sum := "f9b3c4b38ac4a54f5212c491794f62d34d48c7e8405f7d599d565e1df43a68b7", func := "loop.example/dualmodes/laws.FnResponseLess", spec := "fnResponseLess", unfollowed := true, recurses := true, apart := false }
def FnResponseLessSaid : Prop := fnResponseLessRow.holds Try.pinned (OpenSpec.ofChange fnResponseLessSpec)

/-- ITS FALSE NEIGHBOUR: 'it returns false'. Refute it at one input. -/
def fnResponseLessWrong : ChangeSpec := { name := "fnResponseLess", fn := fun _ => fun
  | [d] => { results := [.lit (.bool false)], args := [d] }
  | _ => none }
def FnResponseLessWrongFalsely : Prop := fnResponseLessRow.holds Try.pinned (OpenSpec.ofChange fnResponseLessWrong)

/-- 'laws.FnResponseLow': WHATEVER THE INPUT: true; the input reads as it did. -/
def fnResponseLowSpec : ChangeSpec := { name := "fnResponseLow", fn := fun _ => fun
  | [d] => { results := [.lit (.bool true)], args := [d] }
  | _ => none }
def fnResponseLowRow : OpenClaim := { program := "ytajbkjoblpbjlaa", sum := "f9b3c4b38ac4a54f5212c491794f62d34d48c7e8405f7d599d565e1df43a68b7", func := "loop.example/dualmodes/laws.FnResponseLow", spec := "fnResponseLow", unfollowed := true, recurses := true, apart := false }
def FnResponseLowSaid : Prop := fnResponseLowRow.holds Try.pinned (OpenSpec.ofChange fnResponseLowSpec)

/-- ITS FALSE NEIGHBOUR: 'it returns false'. Refute it at one input. -/
def fnResponseLowWrong : ChangeSpec := { name := "fnResponseLow", fn := fun _ => fun
  | [d] => { results := [.lit (.bool false)], args := [d] }
  | _ => none }
def FnResponseLowWrongFalsely : Prop := fnResponseLowRow.holds Try.pinned (OpenSpec.ofChange fnResponseLowWrong)

/-- 'laws.FnShareHyper': WHATEVER THE INPUT: true; the input reads as it did. -/
def fnShareHyperSpec : ChangeSpec := { name := "fnShareHyper", fn := fun _ => fun
  | [d] => { results := [.lit (.bool true)], args := [d] }
  | _ => none }
def fnShareHyperRow : OpenClaim := { program := "ytajbkjoblpbjlaa", sum := "f9b3c4b38ac4a54f5212c491794f62d34d48c7e8405f7d599d565e1df43a68b7", func := "loop.example/dualmodes/laws.FnShareHyper", spec := "fnShareHyper", apart := false }
def FnShareHyperSaid : Prop := fnShareHyperRow.holds Try.pinned (OpenSpec.ofChange fnShareHyperSpec)

/-- ITS FALSE NEIGHBOUR: 'it returns false'. Refute it at one input. -/
def fnShareHyperWrong : ChangeSpec := { name := "fnShareHyper", fn := fun _ => fun
  | [d] => { results := [.lit (.bool false)], args := [d] }
  | _ => none }
def FnShareHyperWrongFalsely : Prop := fnShareHyperRow.holds Try.pinned (OpenSpec.ofChange fnShareHyperWrong)

/-- 'laws.FnHighParts': WHATEVER THE INPUT: true; the input reads as it did. -/
def fnHighPartsSpec : ChangeSpec := { name := "fnHighParts", fn := fun _ => fun
  | [d] => { results := [.lit (.bool true)], args := [d] }
  | _ => none }
def fnHighPartsRow : OpenClaim := { program := "ytajbkjoblpbjlaa", sum := "f9b3c4b38ac4a54f5212c491794f62d34d48c7e8405f7d599d565e1df43a68b7", func := "loop.example/dualmodes/laws.FnHighParts", spec := "fnHighParts", apart := false }
def FnHighPartsSaid : Prop := fnHighPartsRow.holds Try.pinned (OpenSpec.ofChange fnHighPartsSpec)

/-- ITS FALSE NEIGHBOUR: 'it returns false'. Refute it at one input. -/
def fnHighPartsWrong : ChangeSpec := { name := "fnHighParts", fn := fun _ => fun
  | [d] => { results := [.lit (.bool false)], args := [d] }
  | _ => none }
def FnHighPartsWrongFalsely : Prop := fnHighPartsRow.holds Try.pinned (OpenSpec.ofChange fnHighPartsWrong)

/-- 'laws.FnHighShare': WHATEVER THE INPUT: true; the input reads as it did. -/
def fnHighShareSpec : ChangeSpec := { name := "fnHighShare", fn := fun _ => fun
  | [d] => { results := [.lit (.bool true)], args := [d] }
  | _ => none }
def fnHighShareRow : OpenClaim := { program := "ytajbkjoblpbjlaa", sum := "f9b3c4b38ac4a54f5212c491794f62d34d48c7e8405f7d599d565e1df43a68b7", func := "loop.example/dualmodes/laws.FnHighShare", spec := "fnHighShare", apart := false }
def FnHighShareSaid : Prop := fnHighShareRow.holds Try.pinned (OpenSpec.ofChange fnHighShareSpec)

/-- ITS FALSE NEIGHBOUR: 'it returns false'. Refute it at one input. -/
def fnHighShareWrong : ChangeSpec := { name := "fnHighShare", fn := fun _ => fun
  | [d] => { results := [.lit (.bool false)], args := [d] }
  | _ => none }
def FnHighShareWrongFalsely : Prop := fnHighShareRow.holds Try.pinned (OpenSpec.ofChange fnHighShareWrong)

/-- 'laws.FnLowShare': WHATEVER THE INPUT: true; the input reads as it did. -/
def fnLowShareSpec : ChangeSpec := { name := "fnLowShare", fn := fun _ => fun
  | [d] => { results := [.lit (.bool true)], args := [d] }
  | _ => none }
def fnLowShareRow : OpenClaim := { program := "ytajbkjoblpbjlaa", sum := "f9b3c4b38ac4a54f5212c491794f62d34d48c7e8405f7d599d565e1df43a68b7", func := "loop.example/dualmodes/laws.FnLowShare", spec := "fnLowShare", apart := false }
def FnLowShareSaid : Prop := fnLowShareRow.holds Try.pinned (OpenSpec.ofChange fnLowShareSpec)

/-- ITS FALSE NEIGHBOUR: 'it returns false'. Refute it at one input. -/
def fnLowShareWrong : ChangeSpec := { name := "fnLowShare", fn := fun _ => fun
  | [d] => { results := [.lit (.bool false)], args := [d] }
  | _ => none }
def FnLowShareWrongFalsely : Prop := fnLowShareRow.holds Try.pinned (OpenSpec.ofChange fnLowShareWrong)

/-- 'laws.FnShareOne': WHATEVER THE INPUT: true; the input reads as it did. -/
def fnShareOneSpec : ChangeSpec := { name := "fnShareOne", fn := fun _ => fun
  | [d] => { results := [.lit (.bool true)], args := [d] }
  | _ => none }
def fnShareOneRow : OpenClaim := { program := "ytajbkjoblpbjlaa", sum := "f9b3c4b38ac4a54f5212c491794f62d34d48c7e8405f7d599d565e1df43a68b7", func := "loop.example/dualmodes/laws.FnShareOne", spec := "fnShareOne", apart := false }
def FnShareOneSaid : Prop := fnShareOneRow.holds Try.pinned (OpenSpec.ofChange fnShareOneSpec)

/-- ITS FALSE NEIGHBOUR: 'it returns false'. Refute it at one input. -/
def fnShareOneWrong : ChangeSpec := { name := "fnShareOne", fn := fun _ => fun
  | [d] => { results := [.lit (.bool false)], args := [d] }
  | _ => none }
def FnShareOneWrongFalsely : Prop := fnShareOneRow.holds Try.pinned (OpenSpec.ofChange fnShareOneWrong)

/- THE SECOND FORM. 'bulk': how many values and letters a reading holds, each counted each time it is reached (what is shared counts as often as it is met; a slice's spare places count too). A statement '..UptoSaid' is the law's where the arguments, and the package variables that the reading takes, are together of bulk at most 1048576: NARROWER than '..Said'. Prove '..Said' where nothing that the law and all that it calls make is longer than what came in: it says more and counts as full. Else prove '..UptoSaid'. A law counts once. -/
mutual
def uptoBulk {H : Type} : DataW H → Nat
  | .lit (.string bytes) => bytes.length + 1
  | .lit _ => 1
  | .nil => 1
  | .ptr d => uptoBulk d + 1
  | .slice elems spare => uptoBulkAll elems + uptoBulkAll spare + 1
  | .agg parts => uptoBulkAll parts + 1
  | .iface _ d => uptoBulk d + 1
  | .map entries => uptoBulkEntries entries + 1
  | .held _ => 1
def uptoBulkAll {H : Type} : List (DataW H) → Nat
  | [] => 0
  | d :: r => uptoBulk d + uptoBulkAll r
def uptoBulkEntries {H : Type} : List (Lit × DataW H) → Nat
  | [] => 0
  | x :: r => uptoBulkEntry x + uptoBulkEntries r
def uptoBulkEntry {H : Type} : Lit × DataW H → Nat
  | (.string bytes, d) => bytes.length + uptoBulk d + 1
  | (_, d) => uptoBulk d + 1
 end
def uptoSmall : (H : Type) → List (DataW H) → Bool := fun _ ds => decide (uptoBulkAll ds ≤ 1048576)
def OpenSpec.upto (s : _root_.Go.ChangeSpec) : _root_.Go.OpenSpec := { _root_.Go.OpenSpec.ofChange s with cond := some uptoSmall }

/-- 'laws.FnExactResponseSwitch', WHERE WHAT IT READS IS OF BULK AT MOST 1048576: true; the input reads as it did. -/
def fnExactResponseSwitchUptoRow : OpenClaim := { program := "ytajbkjoblpbjlaa", sum := "f9b3c4b38ac4a54f5212c491794f62d34d48c7e8405f7d599d565e1df43a68b7", func := "loop.example/dualmodes/laws.FnExactResponseSwitch", spec := "fnExactResponseSwitch", unfollowed := true, recurses := true, apart := false, narrowed := true }
def FnExactResponseSwitchUptoSaid : Prop := fnExactResponseSwitchUptoRow.holds Try.pinned (OpenSpec.upto fnExactResponseSwitchSpec)

/-- 'laws.FnExactResponseHigh', WHERE WHAT IT READS IS OF BULK AT MOST 1048576: true; the input reads as it did. -/
def fnExactResponseHighUptoRow : OpenClaim := { program := "ytajbkjoblpbjlaa", sum := "f9b3c4b38ac4a54f5212c491794f62d34d48c7e8405f7d599d565e1df43a68b7", func := "loop.example/dualmodes/laws.FnExactResponseHigh", spec := "fnExactResponseHigh", unfollowed := true, recurses := true, apart := false, narrowed := true }
def FnExactResponseHighUptoSaid : Prop := fnExactResponseHighUptoRow.holds Try.pinned (OpenSpec.upto fnExactResponseHighSpec)

/-- 'laws.FnResponseMore', WHERE WHAT IT READS IS OF BULK AT MOST 1048576: true; the input reads as it did. -/
def fnResponseMoreUptoRow : OpenClaim := { program := "ytajbkjoblpbjlaa", sum := "f9b3c4b38ac4a54f5212c491794f62d34d48c7e8405f7d599d565e1df43a68b7", func := "loop.example/dualmodes/laws.FnResponseMore", spec := "fnResponseMore", unfollowed := true, recurses := true, apart := false, narrowed := true }
def FnResponseMoreUptoSaid : Prop := fnResponseMoreUptoRow.holds Try.pinned (OpenSpec.upto fnResponseMoreSpec)

/-- 'laws.FnLowParts', WHERE WHAT IT READS IS OF BULK AT MOST 1048576: true; the input reads as it did. -/
def fnLowPartsUptoRow : OpenClaim := { program := "ytajbkjoblpbjlaa", sum := "f9b3c4b38ac4a54f5212c491794f62d34d48c7e8405f7d599d565e1df43a68b7", func := "loop.example/dualmodes/laws.FnLowParts", spec := "fnLowParts", apart := false, narrowed := true }
def FnLowPartsUptoSaid : Prop := fnLowPartsUptoRow.holds Try.pinned (OpenSpec.upto fnLowPartsSpec)

/-- 'laws.FnResponseLess', WHERE WHAT IT READS IS OF BULK AT MOST 1048576: true; the input reads as it did. -/
def fnResponseLessUptoRow : OpenClaim := { program := "ytajbkjoblpbjlaa", sum := "f9b3c4b38ac4a54f5212c491794f62d34d48c7e8405f7d599d565e1df43a68b7", func := "loop.example/dualmodes/laws.FnResponseLess", spec := "fnResponseLess", unfollowed := true, recurses := true, apart := false, narrowed := true }
def FnResponseLessUptoSaid : Prop := fnResponseLessUptoRow.holds Try.pinned (OpenSpec.upto fnResponseLessSpec)

/-- 'laws.FnResponseLow', WHERE WHAT IT READS IS OF BULK AT MOST 1048576: true; the input reads as it did. -/
def fnResponseLowUptoRow : OpenClaim := { program := "ytajbkjoblpbjlaa", sum := "f9b3c4b38ac4a54f5212c491794f62d34d48c7e8405f7d599d565e1df43a68b7", func := "loop.example/dualmodes/laws.FnResponseLow", spec := "fnResponseLow", unfollowed := true, recurses := true, apart := false, narrowed := true }
def FnResponseLowUptoSaid : Prop := fnResponseLowUptoRow.holds Try.pinned (OpenSpec.upto fnResponseLowSpec)

/-- 'laws.FnShareHyper', WHERE WHAT IT READS IS OF BULK AT MOST 1048576: true; the input reads as it did. -/
def fnShareHyperUptoRow : OpenClaim := { program := "ytajbkjoblpbjlaa", sum := "f9b3c4b38ac4a54f5212c491794f62d34d48c7e8405f7d599d565e1df43a68b7", func := "loop.example/dualmodes/laws.FnShareHyper", spec := "fnShareHyper", apart := false, narrowed := true }
def FnShareHyperUptoSaid : Prop := fnShareHyperUptoRow.holds Try.pinned (OpenSpec.upto fnShareHyperSpec)

/-- 'laws.FnHighParts', WHERE WHAT IT READS IS OF BULK AT MOST 1048576: true; the input reads as it did. -/
def fnHighPartsUptoRow : OpenClaim := { program := "ytajbkjoblpbjlaa", sum := "f9b3c4b38ac4a54f5212c491794f62d34d48c7e8405f7d599d565e1df43a68b7", func := "loop.example/dualmodes/laws.FnHighParts", spec := "fnHighParts", apart := false, narrowed := true }
def FnHighPartsUptoSaid : Prop := fnHighPartsUptoRow.holds Try.pinned (OpenSpec.upto fnHighPartsSpec)

/-- 'laws.FnHighShare', WHERE WHAT IT READS IS OF BULK AT MOST 1048576: true; the input reads as it did. -/
def fnHighShareUptoRow : OpenClaim := { program := "ytajbkjoblpbjlaa", sum := "f9b3c4b38ac4a54f5212c491794f62d34d48c7e8405f7d599d565e1df43a68b7", func := "loop.example/dualmodes/laws.FnHighShare", spec := "fnHighShare", apart := false, narrowed := true }
def FnHighShareUptoSaid : Prop := fnHighShareUptoRow.holds Try.pinned (OpenSpec.upto fnHighShareSpec)

/-- 'laws.FnLowShare', WHERE WHAT IT READS IS OF BULK AT MOST 1048576: true; the input reads as it did. -/
def fnLowShareUptoRow : OpenClaim := { program := "ytajbkjoblpbjlaa", sum := "f9b3c4b38ac4a54f5212c491794f62d34d48c7e8405f7d599d565e1df43a68b7", func := "loop.example/dualmodes/laws.FnLowShare", spec := "fnLowShare", apart := false, narrowed := true }
def FnLowShareUptoSaid : Prop := fnLowShareUptoRow.holds Try.pinned (OpenSpec.upto fnLowShareSpec)

/-- 'laws.FnShareOne', WHERE WHAT IT READS IS OF BULK AT MOST 1048576: true; the input reads as it did. -/
def fnShareOneUptoRow : OpenClaim := { program := "ytajbkjoblpbjlaa", sum := "f9b3c4b38ac4a54f5212c491794f62d34d48c7e8405f7d599d565e1df43a68b7", func := "loop.example/dualmodes/laws.FnShareOne", spec := "fnShareOne", apart := false, narrowed := true }
def FnShareOneUptoSaid : Prop := fnShareOneUptoRow.holds Try.pinned (OpenSpec.upto fnShareOneSpec)

end Rows
end Go.Proofs.Ytajbkjoblpbjlaa
