/-
  DERIVED. GIVEN WITH THE SEED: THE CARDS: each row of YtphikogfogejlaaDoorRows.lean that lists a variable, with what it lists TIED to the program's text (the seventh form; the later family's looks); each row that meets fmt, with fmt's text TOLD by the authors' own Lean function (tested against real Go, not proved from fmt's source: count such statements apart). THE CARD IS WHAT COUNTS. Prove the row's statement (the work); the ties are given (YtphikogfogejlaaDoorTie.lean); close each card by the builder's one call (the guide's Derived/Test/ToyasCard.lean, 'card_holds'). Laid BY PROGRAM, IN A SANDBOX (cutbox-door.mjs). By AI agents, Wed Nov 11 2026. No macro, syntax, notation, axiom, sorry.
-/
import Derived.Test.YtphikogfogejlaaDoorRows
import GoSem.ClaimSeven
namespace Go.Proofs.YtphikogfogejlaaDoor
namespace Rows

/-- THE TIED CARD OF 'laws.FnExactTextInstr'. -/
def fnExactTextInstrCard : Claim7 := { stood := { row := fnExactTextInstrRow, standIns := [], harness := (true, "0d10b14f8f9649ce6952612b220fc84140ef6226acb150368ae733839396d0b6"), looks := false }, kinds := [], alts := [], laidByText := true, laidKinds := [.data, .pinned], laidTests := true, laidLooks := .later }
def FnExactTextInstrCardSaid : Prop := Claim7.holds Tryd.pinned (.plain (OpenSpec.ofChange fnExactTextInstrSpec)) fnExactTextInstrCard

/-- THE TIED CARD OF 'laws.FnExactTextSelect'. -/
def fnExactTextSelectCard : Claim7 := { stood := { row := fnExactTextSelectRow, standIns := [], harness := (true, "0d10b14f8f9649ce6952612b220fc84140ef6226acb150368ae733839396d0b6"), looks := false }, kinds := [], alts := [], laidByText := true, laidKinds := [.data, .pinned], laidTests := true, laidLooks := .later }
def FnExactTextSelectCardSaid : Prop := Claim7.holds Tryd.pinned (.plain (OpenSpec.ofChange fnExactTextSelectSpec)) fnExactTextSelectCard

/-- THE TIED CARD OF 'laws.FnExactTextProg'. -/
def fnExactTextProgCard : Claim7 := { stood := { row := fnExactTextProgRow, standIns := [], harness := (true, "0d10b14f8f9649ce6952612b220fc84140ef6226acb150368ae733839396d0b6"), looks := false }, kinds := [], alts := [], laidByText := true, laidKinds := [.data, .pinned], laidTests := true, laidLooks := .later }
def FnExactTextProgCardSaid : Prop := Claim7.holds Tryd.pinned (.plain (OpenSpec.ofChange fnExactTextProgSpec)) fnExactTextProgCard

/-- THE TIED CARD OF 'laws.FnExactItemText'. -/
def fnExactItemTextCard : Claim7 := { stood := { row := fnExactItemTextRow, standIns := [], harness := (true, "0d10b14f8f9649ce6952612b220fc84140ef6226acb150368ae733839396d0b6"), looks := false }, kinds := [], alts := [], laidByText := true, laidKinds := [.listed, .data], laidTests := true, laidLooks := .later }
def FnExactItemTextCardSaid : Prop := Claim7.holds Tryd.pinned (.plain (OpenSpec.ofChange fnExactItemTextSpec)) fnExactItemTextCard

/-- THE TIED CARD OF 'laws.FnExactParts'. -/
def fnExactPartsCard : Claim7 := { stood := { row := fnExactPartsRow, standIns := [], harness := (true, "0d10b14f8f9649ce6952612b220fc84140ef6226acb150368ae733839396d0b6"), looks := false }, kinds := [], alts := [], laidByText := true, laidKinds := [.data, .pinned], laidTests := true, laidLooks := .later }
def FnExactPartsCardSaid : Prop := Claim7.holds Tryd.pinned (.plain (OpenSpec.ofChange fnExactPartsSpec)) fnExactPartsCard

/-- THE TIED CARD OF 'laws.FnExactLines'. -/
def fnExactLinesCard : Claim7 := { stood := { row := fnExactLinesRow, standIns := [], harness := (true, "0d10b14f8f9649ce6952612b220fc84140ef6226acb150368ae733839396d0b6"), looks := false }, kinds := [], alts := [], laidByText := true, laidKinds := [.data, .pinned], laidTests := true, laidLooks := .later }
def FnExactLinesCardSaid : Prop := Claim7.holds Tryd.pinned (.plain (OpenSpec.ofChange fnExactLinesSpec)) fnExactLinesCard

/-- THE SECOND FORM's CARD OF 'laws.FnExactTextInstr'. -/
def fnExactTextInstrUptoCard : Claim7 := { stood := { row := fnExactTextInstrUptoRow, standIns := [], harness := (true, "0d10b14f8f9649ce6952612b220fc84140ef6226acb150368ae733839396d0b6"), looks := false }, kinds := [], alts := [], laidByText := true, laidKinds := [.data, .pinned], laidTests := true, laidLooks := .later }
def FnExactTextInstrUptoCardSaid : Prop := Claim7.holds Tryd.pinned (.plain (OpenSpec.upto fnExactTextInstrSpec)) fnExactTextInstrUptoCard

/-- THE SECOND FORM's CARD OF 'laws.FnExactTextSelect'. -/
def fnExactTextSelectUptoCard : Claim7 := { stood := { row := fnExactTextSelectUptoRow, standIns := [], harness := (true, "0d10b14f8f9649ce6952612b220fc84140ef6226acb150368ae733839396d0b6"), looks := false }, kinds := [], alts := [], laidByText := true, laidKinds := [.data, .pinned], laidTests := true, laidLooks := .later }
def FnExactTextSelectUptoCardSaid : Prop := Claim7.holds Tryd.pinned (.plain (OpenSpec.upto fnExactTextSelectSpec)) fnExactTextSelectUptoCard

/-- THE SECOND FORM's CARD OF 'laws.FnExactTextProg'. -/
def fnExactTextProgUptoCard : Claim7 := { stood := { row := fnExactTextProgUptoRow, standIns := [], harness := (true, "0d10b14f8f9649ce6952612b220fc84140ef6226acb150368ae733839396d0b6"), looks := false }, kinds := [], alts := [], laidByText := true, laidKinds := [.data, .pinned], laidTests := true, laidLooks := .later }
def FnExactTextProgUptoCardSaid : Prop := Claim7.holds Tryd.pinned (.plain (OpenSpec.upto fnExactTextProgSpec)) fnExactTextProgUptoCard

/-- THE SECOND FORM's CARD OF 'laws.FnExactItemText'. -/
def fnExactItemTextUptoCard : Claim7 := { stood := { row := fnExactItemTextUptoRow, standIns := [], harness := (true, "0d10b14f8f9649ce6952612b220fc84140ef6226acb150368ae733839396d0b6"), looks := false }, kinds := [], alts := [], laidByText := true, laidKinds := [.listed, .data], laidTests := true, laidLooks := .later }
def FnExactItemTextUptoCardSaid : Prop := Claim7.holds Tryd.pinned (.plain (OpenSpec.upto fnExactItemTextSpec)) fnExactItemTextUptoCard

/-- THE SECOND FORM's CARD OF 'laws.FnExactParts'. -/
def fnExactPartsUptoCard : Claim7 := { stood := { row := fnExactPartsUptoRow, standIns := [], harness := (true, "0d10b14f8f9649ce6952612b220fc84140ef6226acb150368ae733839396d0b6"), looks := false }, kinds := [], alts := [], laidByText := true, laidKinds := [.data, .pinned], laidTests := true, laidLooks := .later }
def FnExactPartsUptoCardSaid : Prop := Claim7.holds Tryd.pinned (.plain (OpenSpec.upto fnExactPartsSpec)) fnExactPartsUptoCard

/-- THE SECOND FORM's CARD OF 'laws.FnExactLines'. -/
def fnExactLinesUptoCard : Claim7 := { stood := { row := fnExactLinesUptoRow, standIns := [], harness := (true, "0d10b14f8f9649ce6952612b220fc84140ef6226acb150368ae733839396d0b6"), looks := false }, kinds := [], alts := [], laidByText := true, laidKinds := [.data, .pinned], laidTests := true, laidLooks := .later }
def FnExactLinesUptoCardSaid : Prop := Claim7.holds Tryd.pinned (.plain (OpenSpec.upto fnExactLinesSpec)) fnExactLinesUptoCard
end Rows
end Go.Proofs.YtphikogfogejlaaDoor
