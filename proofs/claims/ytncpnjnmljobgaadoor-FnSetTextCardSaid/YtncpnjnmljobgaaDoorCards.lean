/-
  DERIVED. GIVEN WITH THE SEED: THE CARDS: each row of YtncpnjnmljobgaaDoorRows.lean that lists a variable, with what it lists TIED to the program's text (the seventh form; the later family's looks); each row that meets fmt, with fmt's text TOLD by the authors' own Lean function (tested against real Go, not proved from fmt's source: count such statements apart). THE CARD IS WHAT COUNTS. Prove the row's statement (the work); the ties are given (YtncpnjnmljobgaaDoorTie.lean); close each card by the builder's one call (the guide's Derived/Test/ToyasCard.lean, 'card_holds'). Laid BY PROGRAM, IN A SANDBOX (cutbox-door.mjs). By AI agents, Wed Nov 11 2026. No macro, syntax, notation, axiom, sorry.
-/
import Derived.Test.YtncpnjnmljobgaaDoorRows
import GoSem.ClaimSeven
namespace Go.Proofs.YtncpnjnmljobgaaDoor
namespace Rows

/-- THE TIED CARD OF 'laws.FnTaskText'. -/
def fnTaskTextCard : Claim7 := { stood := { row := fnTaskTextRow, standIns := [], harness := (true, "6292e08d7e8aebfd864178f350350b8ebd654df18bd720b21844c68f4e90ac19"), looks := true }, kinds := [], alts := [], laidByText := true, laidKinds := [.data, .data, .data, .sentinel, .sentinel], laidTests := true, laidLooks := .later }
def FnTaskTextCardSaid : Prop := Claim7.holds Tryd.pinned (.plain (OpenSpec.ofChange fnTaskTextSpec)) fnTaskTextCard

/-- THE TIED CARD OF 'laws.FnExactParseSet'. -/
def fnExactParseSetCard : Claim7 := { stood := { row := fnExactParseSetRow, standIns := [], harness := (true, "6292e08d7e8aebfd864178f350350b8ebd654df18bd720b21844c68f4e90ac19"), looks := true }, kinds := [], alts := [], laidByText := true, laidKinds := [.data, .data, .data, .data, .sentinel, .sentinel, .pinned], laidTests := true, laidLooks := .later }
def FnExactParseSetCardSaid : Prop := Claim7.holds Tryd.pinned (.plain (OpenSpec.ofChange fnExactParseSetSpec)) fnExactParseSetCard

/-- THE TIED CARD OF 'laws.FnSetText'. -/
def fnSetTextCard : Claim7 := { stood := { row := fnSetTextRow, standIns := [], harness := (true, "6292e08d7e8aebfd864178f350350b8ebd654df18bd720b21844c68f4e90ac19"), looks := true }, kinds := [], alts := [], laidByText := true, laidKinds := [.data, .data, .data, .data, .sentinel, .sentinel, .pinned], laidTests := true, laidLooks := .later }
def FnSetTextCardSaid : Prop := Claim7.holds Tryd.pinned (.plain (OpenSpec.ofChange fnSetTextSpec)) fnSetTextCard

/-- THE TIED CARD OF 'laws.FnExactParseTask'. -/
def fnExactParseTaskCard : Claim7 := { stood := { row := fnExactParseTaskRow, standIns := [], harness := (true, "6292e08d7e8aebfd864178f350350b8ebd654df18bd720b21844c68f4e90ac19"), looks := true }, kinds := [], alts := [], laidByText := true, laidKinds := [.data, .data, .data, .sentinel, .sentinel], laidTests := true, laidLooks := .later }
def FnExactParseTaskCardSaid : Prop := Claim7.holds Tryd.pinned (.plain (OpenSpec.ofChange fnExactParseTaskSpec)) fnExactParseTaskCard

/-- THE TIED CARD OF 'laws.FnParseTask'. -/
def fnParseTaskCard : Claim7 := { stood := { row := fnParseTaskRow, standIns := [], harness := (true, "6292e08d7e8aebfd864178f350350b8ebd654df18bd720b21844c68f4e90ac19"), looks := true }, kinds := [], alts := [], laidByText := true, laidKinds := [.data, .data, .data, .sentinel, .sentinel], laidTests := true, laidLooks := .later }
def FnParseTaskCardSaid : Prop := Claim7.holds Tryd.pinned (.plain (OpenSpec.ofChange fnParseTaskSpec)) fnParseTaskCard

/-- THE SECOND FORM's CARD OF 'laws.FnTaskText'. -/
def fnTaskTextUptoCard : Claim7 := { stood := { row := fnTaskTextUptoRow, standIns := [], harness := (true, "6292e08d7e8aebfd864178f350350b8ebd654df18bd720b21844c68f4e90ac19"), looks := true }, kinds := [], alts := [], laidByText := true, laidKinds := [.data, .data, .data, .sentinel, .sentinel], laidTests := true, laidLooks := .later }
def FnTaskTextUptoCardSaid : Prop := Claim7.holds Tryd.pinned (.plain (OpenSpec.upto fnTaskTextSpec)) fnTaskTextUptoCard

/-- THE SECOND FORM's CARD OF 'laws.FnExactParseSet'. -/
def fnExactParseSetUptoCard : Claim7 := { stood := { row := fnExactParseSetUptoRow, standIns := [], harness := (true, "6292e08d7e8aebfd864178f350350b8ebd654df18bd720b21844c68f4e90ac19"), looks := true }, kinds := [], alts := [], laidByText := true, laidKinds := [.data, .data, .data, .data, .sentinel, .sentinel, .pinned], laidTests := true, laidLooks := .later }
def FnExactParseSetUptoCardSaid : Prop := Claim7.holds Tryd.pinned (.plain (OpenSpec.upto fnExactParseSetSpec)) fnExactParseSetUptoCard

/-- THE SECOND FORM's CARD OF 'laws.FnSetText'. -/
def fnSetTextUptoCard : Claim7 := { stood := { row := fnSetTextUptoRow, standIns := [], harness := (true, "6292e08d7e8aebfd864178f350350b8ebd654df18bd720b21844c68f4e90ac19"), looks := true }, kinds := [], alts := [], laidByText := true, laidKinds := [.data, .data, .data, .data, .sentinel, .sentinel, .pinned], laidTests := true, laidLooks := .later }
def FnSetTextUptoCardSaid : Prop := Claim7.holds Tryd.pinned (.plain (OpenSpec.upto fnSetTextSpec)) fnSetTextUptoCard

/-- THE SECOND FORM's CARD OF 'laws.FnExactParseTask'. -/
def fnExactParseTaskUptoCard : Claim7 := { stood := { row := fnExactParseTaskUptoRow, standIns := [], harness := (true, "6292e08d7e8aebfd864178f350350b8ebd654df18bd720b21844c68f4e90ac19"), looks := true }, kinds := [], alts := [], laidByText := true, laidKinds := [.data, .data, .data, .sentinel, .sentinel], laidTests := true, laidLooks := .later }
def FnExactParseTaskUptoCardSaid : Prop := Claim7.holds Tryd.pinned (.plain (OpenSpec.upto fnExactParseTaskSpec)) fnExactParseTaskUptoCard

/-- THE SECOND FORM's CARD OF 'laws.FnParseTask'. -/
def fnParseTaskUptoCard : Claim7 := { stood := { row := fnParseTaskUptoRow, standIns := [], harness := (true, "6292e08d7e8aebfd864178f350350b8ebd654df18bd720b21844c68f4e90ac19"), looks := true }, kinds := [], alts := [], laidByText := true, laidKinds := [.data, .data, .data, .sentinel, .sentinel], laidTests := true, laidLooks := .later }
def FnParseTaskUptoCardSaid : Prop := Claim7.holds Tryd.pinned (.plain (OpenSpec.upto fnParseTaskSpec)) fnParseTaskUptoCard
end Rows
end Go.Proofs.YtncpnjnmljobgaaDoor
