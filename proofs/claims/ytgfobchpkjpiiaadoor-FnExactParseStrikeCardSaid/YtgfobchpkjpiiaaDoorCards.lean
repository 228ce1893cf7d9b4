/-
  DERIVED. GIVEN WITH THE SEED: THE CARDS: each row of YtgfobchpkjpiiaaDoorRows.lean that lists a variable, with what it lists TIED to the program's text (the seventh form; the later family's looks); each row that meets fmt, with fmt's text TOLD by the authors' own Lean function (tested against real Go, not proved from fmt's source: count such statements apart). THE CARD IS WHAT COUNTS. Prove the row's statement (the work); the ties are given (YtgfobchpkjpiiaaDoorTie.lean); close each card by the builder's one call (the guide's Derived/Test/ToyasCard.lean, 'card_holds'). Laid BY PROGRAM, IN A SANDBOX (cutbox-door.mjs). By AI agents, Wed Nov 11 2026. No macro, syntax, notation, axiom, sorry.
-/
import Derived.Test.YtgfobchpkjpiiaaDoorRows
import GoSem.ClaimSeven
namespace Go.Proofs.YtgfobchpkjpiiaaDoor
namespace Rows

/-- THE TIED CARD OF 'laws.FnExactMeltText'. -/
def fnExactMeltTextCard : Claim7 := { stood := { row := fnExactMeltTextRow, standIns := [], harness := (true, "a7b9c6729bb7decdc069a65259825f5c74d06a5efd19280322d31e7470d7b731"), looks := true }, kinds := [], alts := [], laidByText := true, laidKinds := [.data, .data, .data], laidTests := true, laidLooks := .later }
def FnExactMeltTextCardSaid : Prop := Claim7.holds Tryd.pinned (.plain (OpenSpec.ofChange fnExactMeltTextSpec)) fnExactMeltTextCard

/-- THE TIED CARD OF 'laws.FnExactStrikeText'. -/
def fnExactStrikeTextCard : Claim7 := { stood := { row := fnExactStrikeTextRow, standIns := [], harness := (true, "a7b9c6729bb7decdc069a65259825f5c74d06a5efd19280322d31e7470d7b731"), looks := true }, kinds := [], alts := [], laidByText := true, laidKinds := [.data, .data, .data], laidTests := true, laidLooks := .later }
def FnExactStrikeTextCardSaid : Prop := Claim7.holds Tryd.pinned (.plain (OpenSpec.ofChange fnExactStrikeTextSpec)) fnExactStrikeTextCard

/-- THE TIED CARD OF 'laws.FnExactFontText'. -/
def fnExactFontTextCard : Claim7 := { stood := { row := fnExactFontTextRow, standIns := [], harness := (true, "a7b9c6729bb7decdc069a65259825f5c74d06a5efd19280322d31e7470d7b731"), looks := true }, kinds := [], alts := [], laidByText := true, laidKinds := [.data, .data, .data], laidTests := true, laidLooks := .later }
def FnExactFontTextCardSaid : Prop := Claim7.holds Tryd.pinned (.plain (OpenSpec.ofChange fnExactFontTextSpec)) fnExactFontTextCard

/-- THE TIED CARD OF 'laws.FnExactCaseText'. -/
def fnExactCaseTextCard : Claim7 := { stood := { row := fnExactCaseTextRow, standIns := [], harness := (true, "a7b9c6729bb7decdc069a65259825f5c74d06a5efd19280322d31e7470d7b731"), looks := true }, kinds := [], alts := [], laidByText := true, laidKinds := [.data, .data, .data], laidTests := true, laidLooks := .later }
def FnExactCaseTextCardSaid : Prop := Claim7.holds Tryd.pinned (.plain (OpenSpec.ofChange fnExactCaseTextSpec)) fnExactCaseTextCard

/-- THE TIED CARD OF 'laws.FnExactBillText'. -/
def fnExactBillTextCard : Claim7 := { stood := { row := fnExactBillTextRow, standIns := [], harness := (true, "a7b9c6729bb7decdc069a65259825f5c74d06a5efd19280322d31e7470d7b731"), looks := true }, kinds := [], alts := [], laidByText := true, laidKinds := [.data, .data, .data], laidTests := true, laidLooks := .later }
def FnExactBillTextCardSaid : Prop := Claim7.holds Tryd.pinned (.plain (OpenSpec.ofChange fnExactBillTextSpec)) fnExactBillTextCard

/-- THE TIED CARD OF 'laws.FnExactParseMelt'. -/
def fnExactParseMeltCard : Claim7 := { stood := { row := fnExactParseMeltRow, standIns := [], harness := (true, "a7b9c6729bb7decdc069a65259825f5c74d06a5efd19280322d31e7470d7b731"), looks := true }, kinds := [], alts := [], laidByText := true, laidKinds := [.data, .data, .data, .sentinel, .sentinel], laidTests := true, laidLooks := .later }
def FnExactParseMeltCardSaid : Prop := Claim7.holds Tryd.pinned (.plain (OpenSpec.ofChange fnExactParseMeltSpec)) fnExactParseMeltCard

/-- THE TIED CARD OF 'laws.FnExactParseStrike'. -/
def fnExactParseStrikeCard : Claim7 := { stood := { row := fnExactParseStrikeRow, standIns := [], harness := (true, "a7b9c6729bb7decdc069a65259825f5c74d06a5efd19280322d31e7470d7b731"), looks := true }, kinds := [], alts := [], laidByText := true, laidKinds := [.data, .data, .data, .sentinel, .sentinel], laidTests := true, laidLooks := .later }
def FnExactParseStrikeCardSaid : Prop := Claim7.holds Tryd.pinned (.plain (OpenSpec.ofChange fnExactParseStrikeSpec)) fnExactParseStrikeCard

/-- THE SECOND FORM's CARD OF 'laws.FnExactMeltText'. -/
def fnExactMeltTextUptoCard : Claim7 := { stood := { row := fnExactMeltTextUptoRow, standIns := [], harness := (true, "a7b9c6729bb7decdc069a65259825f5c74d06a5efd19280322d31e7470d7b731"), looks := true }, kinds := [], alts := [], laidByText := true, laidKinds := [.data, .data, .data], laidTests := true, laidLooks := .later }
def FnExactMeltTextUptoCardSaid : Prop := Claim7.holds Tryd.pinned (.plain (OpenSpec.upto fnExactMeltTextSpec)) fnExactMeltTextUptoCard

/-- THE SECOND FORM's CARD OF 'laws.FnExactStrikeText'. -/
def fnExactStrikeTextUptoCard : Claim7 := { stood := { row := fnExactStrikeTextUptoRow, standIns := [], harness := (true, "a7b9c6729bb7decdc069a65259825f5c74d06a5efd19280322d31e7470d7b731"), looks := true }, kinds := [], alts := [], laidByText := true, laidKinds := [.data, .data, .data], laidTests := true, laidLooks := .later }
def FnExactStrikeTextUptoCardSaid : Prop := Claim7.holds Tryd.pinned (.plain (OpenSpec.upto fnExactStrikeTextSpec)) fnExactStrikeTextUptoCard

/-- THE SECOND FORM's CARD OF 'laws.FnExactFontText'. -/
def fnExactFontTextUptoCard : Claim7 := { stood := { row := fnExactFontTextUptoRow, standIns := [], harness := (true, "a7b9c6729bb7decdc069a65259825f5c74d06a5efd19280322d31e7470d7b731"), looks := true }, kinds := [], alts := [], laidByText := true, laidKinds := [.data, .data, .data], laidTests := true, laidLooks := .later }
def FnExactFontTextUptoCardSaid : Prop := Claim7.holds Tryd.pinned (.plain (OpenSpec.upto fnExactFontTextSpec)) fnExactFontTextUptoCard

/-- THE SECOND FORM's CARD OF 'laws.FnExactCaseText'. -/
def fnExactCaseTextUptoCard : Claim7 := { stood := { row := fnExactCaseTextUptoRow, standIns := [], harness := (true, "a7b9c6729bb7decdc069a65259825f5c74d06a5efd19280322d31e7470d7b731"), looks := true }, kinds := [], alts := [], laidByText := true, laidKinds := [.data, .data, .data], laidTests := true, laidLooks := .later }
def FnExactCaseTextUptoCardSaid : Prop := Claim7.holds Tryd.pinned (.plain (OpenSpec.upto fnExactCaseTextSpec)) fnExactCaseTextUptoCard

/-- THE SECOND FORM's CARD OF 'laws.FnExactBillText'. -/
def fnExactBillTextUptoCard : Claim7 := { stood := { row := fnExactBillTextUptoRow, standIns := [], harness := (true, "a7b9c6729bb7decdc069a65259825f5c74d06a5efd19280322d31e7470d7b731"), looks := true }, kinds := [], alts := [], laidByText := true, laidKinds := [.data, .data, .data], laidTests := true, laidLooks := .later }
def FnExactBillTextUptoCardSaid : Prop := Claim7.holds Tryd.pinned (.plain (OpenSpec.upto fnExactBillTextSpec)) fnExactBillTextUptoCard

/-- THE SECOND FORM's CARD OF 'laws.FnExactParseMelt'. -/
def fnExactParseMeltUptoCard : Claim7 := { stood := { row := fnExactParseMeltUptoRow, standIns := [], harness := (true, "a7b9c6729bb7decdc069a65259825f5c74d06a5efd19280322d31e7470d7b731"), looks := true }, kinds := [], alts := [], laidByText := true, laidKinds := [.data, .data, .data, .sentinel, .sentinel], laidTests := true, laidLooks := .later }
def FnExactParseMeltUptoCardSaid : Prop := Claim7.holds Tryd.pinned (.plain (OpenSpec.upto fnExactParseMeltSpec)) fnExactParseMeltUptoCard

/-- THE SECOND FORM's CARD OF 'laws.FnExactParseStrike'. -/
def fnExactParseStrikeUptoCard : Claim7 := { stood := { row := fnExactParseStrikeUptoRow, standIns := [], harness := (true, "a7b9c6729bb7decdc069a65259825f5c74d06a5efd19280322d31e7470d7b731"), looks := true }, kinds := [], alts := [], laidByText := true, laidKinds := [.data, .data, .data, .sentinel, .sentinel], laidTests := true, laidLooks := .later }
def FnExactParseStrikeUptoCardSaid : Prop := Claim7.holds Tryd.pinned (.plain (OpenSpec.upto fnExactParseStrikeSpec)) fnExactParseStrikeUptoCard
end Rows
end Go.Proofs.YtgfobchpkjpiiaaDoor
