/-
  DERIVED. GIVEN WITH THE SEED: THE CARDS: each row of YtnfflpaipabbmaaDoorRows.lean that lists a variable, with what it lists TIED to the program's text (the seventh form; the later family's looks); each row that meets fmt, with fmt's text TOLD by the authors' own Lean function (tested against real Go, not proved from fmt's source: count such statements apart). THE CARD IS WHAT COUNTS. Prove the row's statement (the work); the ties are given (YtnfflpaipabbmaaDoorTie.lean); close each card by the builder's one call (the guide's Derived/Test/ToyasCard.lean, 'card_holds'). Laid BY PROGRAM, IN A SANDBOX (cutbox-door.mjs). By AI agents, Wed Nov 11 2026. No macro, syntax, notation, axiom, sorry.
-/
import Derived.Test.YtnfflpaipabbmaaDoorRows
import GoSem.ClaimSeven
namespace Go.Proofs.YtnfflpaipabbmaaDoor
namespace Rows

/-- THE TIED CARD OF 'laws.FnExactFormatTask'. -/
def fnExactFormatTaskCard : Claim7 := { stood := { row := fnExactFormatTaskRow, standIns := [], harness := (true, "2c57b909f24b614799fa3da06af01239f63c6316905134e58ce54ff7ff9752d5"), looks := false }, kinds := [], alts := [], laidByText := true, laidKinds := [.data, .data, .data], laidTests := true, laidLooks := .later }
def FnExactFormatTaskCardSaid : Prop := Claim7.holds Tryd.pinned (.plain (OpenSpec.ofChange fnExactFormatTaskSpec)) fnExactFormatTaskCard

/-- THE TIED CARD OF 'laws.FnExactFormatShare'. -/
def fnExactFormatShareCard : Claim7 := { stood := { row := fnExactFormatShareRow, standIns := [], harness := (true, "2c57b909f24b614799fa3da06af01239f63c6316905134e58ce54ff7ff9752d5"), looks := false }, kinds := [], alts := [], laidByText := true, laidKinds := [.data, .data, .data], laidTests := true, laidLooks := .later }
def FnExactFormatShareCardSaid : Prop := Claim7.holds Tryd.pinned (.plain (OpenSpec.ofChange fnExactFormatShareSpec)) fnExactFormatShareCard

/-- THE TIED CARD OF 'laws.FnFormatShare'. -/
def fnFormatShareCard : Claim7 := { stood := { row := fnFormatShareRow, standIns := [], harness := (true, "2c57b909f24b614799fa3da06af01239f63c6316905134e58ce54ff7ff9752d5"), looks := false }, kinds := [], alts := [], laidByText := true, laidKinds := [.data, .data, .data], laidTests := true, laidLooks := .later }
def FnFormatShareCardSaid : Prop := Claim7.holds Tryd.pinned (.plain (OpenSpec.ofChange fnFormatShareSpec)) fnFormatShareCard

/-- THE TIED CARD OF 'laws.FnTaskLow'. -/
def fnTaskLowCard : Claim7 := { stood := { row := fnTaskLowRow, standIns := [], harness := (true, "2c57b909f24b614799fa3da06af01239f63c6316905134e58ce54ff7ff9752d5"), looks := false }, kinds := [], alts := [], laidByText := true, laidKinds := [.data, .data, .data], laidTests := true, laidLooks := .later }
def FnTaskLowCardSaid : Prop := Claim7.holds Tryd.pinned (.plain (OpenSpec.ofChange fnTaskLowSpec)) fnTaskLowCard

/-- THE TIED CARD OF 'laws.FnShareText'. -/
def fnShareTextCard : Claim7 := { stood := { row := fnShareTextRow, standIns := [], harness := (true, "2c57b909f24b614799fa3da06af01239f63c6316905134e58ce54ff7ff9752d5"), looks := false }, kinds := [], alts := [], laidByText := true, laidKinds := [.data, .data, .data], laidTests := true, laidLooks := .later }
def FnShareTextCardSaid : Prop := Claim7.holds Tryd.pinned (.plain (OpenSpec.ofChange fnShareTextSpec)) fnShareTextCard

/-- THE TIED CARD OF 'laws.FnExactFormatSet'. -/
def fnExactFormatSetCard : Claim7 := { stood := { row := fnExactFormatSetRow, standIns := [], harness := (true, "2c57b909f24b614799fa3da06af01239f63c6316905134e58ce54ff7ff9752d5"), looks := false }, kinds := [], alts := [], laidByText := true, laidKinds := [.data, .data, .data], laidTests := true, laidLooks := .later }
def FnExactFormatSetCardSaid : Prop := Claim7.holds Tryd.pinned (.plain (OpenSpec.ofChange fnExactFormatSetSpec)) fnExactFormatSetCard

/-- THE TIED CARD OF 'laws.FnSetParts'. -/
def fnSetPartsCard : Claim7 := { stood := { row := fnSetPartsRow, standIns := [], harness := (true, "2c57b909f24b614799fa3da06af01239f63c6316905134e58ce54ff7ff9752d5"), looks := false }, kinds := [], alts := [], laidByText := true, laidKinds := [.data, .data, .data], laidTests := true, laidLooks := .later }
def FnSetPartsCardSaid : Prop := Claim7.holds Tryd.pinned (.plain (OpenSpec.ofChange fnSetPartsSpec)) fnSetPartsCard

/-- THE SECOND FORM's CARD OF 'laws.FnExactFormatTask'. -/
def fnExactFormatTaskUptoCard : Claim7 := { stood := { row := fnExactFormatTaskUptoRow, standIns := [], harness := (true, "2c57b909f24b614799fa3da06af01239f63c6316905134e58ce54ff7ff9752d5"), looks := false }, kinds := [], alts := [], laidByText := true, laidKinds := [.data, .data, .data], laidTests := true, laidLooks := .later }
def FnExactFormatTaskUptoCardSaid : Prop := Claim7.holds Tryd.pinned (.plain (OpenSpec.upto fnExactFormatTaskSpec)) fnExactFormatTaskUptoCard

/-- THE SECOND FORM's CARD OF 'laws.FnExactFormatShare'. -/
def fnExactFormatShareUptoCard : Claim7 := { stood := { row := fnExactFormatShareUptoRow, standIns := [], harness := (true, "2c57b909f24b614799fa3da06af01239f63c6316905134e58ce54ff7ff9752d5"), looks := false }, kinds := [], alts := [], laidByText := true, laidKinds := [.data, .data, .data], laidTests := true, laidLooks := .later }
def FnExactFormatShareUptoCardSaid : Prop := Claim7.holds Tryd.pinned (.plain (OpenSpec.upto fnExactFormatShareSpec)) fnExactFormatShareUptoCard

/-- THE SECOND FORM's CARD OF 'laws.FnFormatShare'. -/
def fnFormatShareUptoCard : Claim7 := { stood := { row := fnFormatShareUptoRow, standIns := [], harness := (true, "2c57b909f24b614799fa3da06af01239f63c6316905134e58ce54ff7ff9752d5"), looks := false }, kinds := [], alts := [], laidByText := true, laidKinds := [.data, .data, .data], laidTests := true, laidLooks := .later }
def FnFormatShareUptoCardSaid : Prop := Claim7.holds Tryd.pinned (.plain (OpenSpec.upto fnFormatShareSpec)) fnFormatShareUptoCard

/-- THE SECOND FORM's CARD OF 'laws.FnTaskLow'. -/
def fnTaskLowUptoCard : Claim7 := { stood := { row := fnTaskLowUptoRow, standIns := [], harness := (true, "2c57b909f24b614799fa3da06af01239f63c6316905134e58ce54ff7ff9752d5"), looks := false }, kinds := [], alts := [], laidByText := true, laidKinds := [.data, .data, .data], laidTests := true, laidLooks := .later }
def FnTaskLowUptoCardSaid : Prop := Claim7.holds Tryd.pinned (.plain (OpenSpec.upto fnTaskLowSpec)) fnTaskLowUptoCard

/-- THE SECOND FORM's CARD OF 'laws.FnShareText'. -/
def fnShareTextUptoCard : Claim7 := { stood := { row := fnShareTextUptoRow, standIns := [], harness := (true, "2c57b909f24b614799fa3da06af01239f63c6316905134e58ce54ff7ff9752d5"), looks := false }, kinds := [], alts := [], laidByText := true, laidKinds := [.data, .data, .data], laidTests := true, laidLooks := .later }
def FnShareTextUptoCardSaid : Prop := Claim7.holds Tryd.pinned (.plain (OpenSpec.upto fnShareTextSpec)) fnShareTextUptoCard

/-- THE SECOND FORM's CARD OF 'laws.FnExactFormatSet'. -/
def fnExactFormatSetUptoCard : Claim7 := { stood := { row := fnExactFormatSetUptoRow, standIns := [], harness := (true, "2c57b909f24b614799fa3da06af01239f63c6316905134e58ce54ff7ff9752d5"), looks := false }, kinds := [], alts := [], laidByText := true, laidKinds := [.data, .data, .data], laidTests := true, laidLooks := .later }
def FnExactFormatSetUptoCardSaid : Prop := Claim7.holds Tryd.pinned (.plain (OpenSpec.upto fnExactFormatSetSpec)) fnExactFormatSetUptoCard

/-- THE SECOND FORM's CARD OF 'laws.FnSetParts'. -/
def fnSetPartsUptoCard : Claim7 := { stood := { row := fnSetPartsUptoRow, standIns := [], harness := (true, "2c57b909f24b614799fa3da06af01239f63c6316905134e58ce54ff7ff9752d5"), looks := false }, kinds := [], alts := [], laidByText := true, laidKinds := [.data, .data, .data], laidTests := true, laidLooks := .later }
def FnSetPartsUptoCardSaid : Prop := Claim7.holds Tryd.pinned (.plain (OpenSpec.upto fnSetPartsSpec)) fnSetPartsUptoCard
end Rows
end Go.Proofs.YtnfflpaipabbmaaDoor
