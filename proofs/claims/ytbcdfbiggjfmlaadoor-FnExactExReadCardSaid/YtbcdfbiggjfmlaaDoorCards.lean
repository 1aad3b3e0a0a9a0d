/-
  DERIVED. GIVEN WITH THE SEED: THE CARDS: each row of YtbcdfbiggjfmlaaDoorRows.lean that lists a variable, with what it lists TIED to the program's text (the seventh form; the later family's looks); each row that meets fmt, with fmt's text TOLD by the authors' own Lean function (tested against real Go, not proved from fmt's source: count such statements apart). THE CARD IS WHAT COUNTS. Prove the row's statement (the work); the ties are given (YtbcdfbiggjfmlaaDoorTie.lean); close each card by the builder's one call (the guide's Derived/Test/ToyasCard.lean, 'card_holds'). Laid BY PROGRAM, IN A SANDBOX (cutbox-door.mjs). By AI agents, Wed Nov 11 2026. No macro, syntax, notation, axiom, sorry.
-/
import Derived.Test.YtbcdfbiggjfmlaaDoorRows
import GoSem.ClaimSeven
namespace Go.Proofs.YtbcdfbiggjfmlaaDoor
namespace Rows

/-- THE TIED CARD OF 'laws.FnExactExText'. -/
def fnExactExTextCard : Claim7 := { stood := { row := fnExactExTextRow, standIns := [], harness := (true, "6fb32411ef41ced9ad7fc2f9d877eaac5c57aea75c9149cefa0a68f2837683b1"), looks := true }, kinds := [], alts := [], laidByText := true, laidKinds := [.data, .data, .data, .widerDeep], laidTests := true, laidLooks := .later }
def FnExactExTextCardSaid : Prop := Claim7.holds Tryd.pinned (.plain (OpenSpec.ofChange fnExactExTextSpec)) fnExactExTextCard

/-- THE TIED CARD OF 'laws.FnExSame'. -/
def fnExSameCard : Claim7 := { stood := { row := fnExSameRow, standIns := [], harness := (true, "6fb32411ef41ced9ad7fc2f9d877eaac5c57aea75c9149cefa0a68f2837683b1"), looks := true }, kinds := [], alts := [], laidByText := true, laidKinds := [.data, .data, .data, .widerDeep], laidTests := true, laidLooks := .later }
def FnExSameCardSaid : Prop := Claim7.holds Tryd.pinned (.plain (OpenSpec.ofChange fnExSameSpec)) fnExSameCard

/-- THE TIED CARD OF 'laws.FnExBent'. -/
def fnExBentCard : Claim7 := { stood := { row := fnExBentRow, standIns := [], harness := (true, "6fb32411ef41ced9ad7fc2f9d877eaac5c57aea75c9149cefa0a68f2837683b1"), looks := true }, kinds := [], alts := [], laidByText := true, laidKinds := [.data, .data, .data, .widerDeep], laidTests := true, laidLooks := .later }
def FnExBentCardSaid : Prop := Claim7.holds Tryd.pinned (.plain (OpenSpec.ofChange fnExBentSpec)) fnExBentCard

/-- THE TIED CARD OF 'laws.FnExactExRead'. -/
def fnExactExReadCard : Claim7 := { stood := { row := fnExactExReadRow, standIns := [], harness := (true, "6fb32411ef41ced9ad7fc2f9d877eaac5c57aea75c9149cefa0a68f2837683b1"), looks := true }, kinds := [], alts := [], laidByText := true, laidKinds := [.data, .data, .data, .data, .sentinel, .sentinel, .widerDeep, .pinned], laidTests := true, laidLooks := .later }
def FnExactExReadCardSaid : Prop := Claim7.holds Tryd.pinned (.plain (OpenSpec.ofChange fnExactExReadSpec)) fnExactExReadCard

/-- THE TIED CARD OF 'laws.FnEx'. -/
def fnExCard : Claim7 := { stood := { row := fnExRow, standIns := [], harness := (true, "6fb32411ef41ced9ad7fc2f9d877eaac5c57aea75c9149cefa0a68f2837683b1"), looks := true }, kinds := [], alts := [], laidByText := true, laidKinds := [.data, .data, .data, .data, .sentinel, .sentinel, .widerDeep, .pinned], laidTests := true, laidLooks := .later }
def FnExCardSaid : Prop := Claim7.holds Tryd.pinned (.plain (OpenSpec.ofChange fnExSpec)) fnExCard

/-- THE SECOND FORM's CARD OF 'laws.FnExactExText'. -/
def fnExactExTextUptoCard : Claim7 := { stood := { row := fnExactExTextUptoRow, standIns := [], harness := (true, "6fb32411ef41ced9ad7fc2f9d877eaac5c57aea75c9149cefa0a68f2837683b1"), looks := true }, kinds := [], alts := [], laidByText := true, laidKinds := [.data, .data, .data, .widerDeep], laidTests := true, laidLooks := .later }
def FnExactExTextUptoCardSaid : Prop := Claim7.holds Tryd.pinned (.plain (OpenSpec.upto fnExactExTextSpec)) fnExactExTextUptoCard

/-- THE SECOND FORM's CARD OF 'laws.FnExSame'. -/
def fnExSameUptoCard : Claim7 := { stood := { row := fnExSameUptoRow, standIns := [], harness := (true, "6fb32411ef41ced9ad7fc2f9d877eaac5c57aea75c9149cefa0a68f2837683b1"), looks := true }, kinds := [], alts := [], laidByText := true, laidKinds := [.data, .data, .data, .widerDeep], laidTests := true, laidLooks := .later }
def FnExSameUptoCardSaid : Prop := Claim7.holds Tryd.pinned (.plain (OpenSpec.upto fnExSameSpec)) fnExSameUptoCard

/-- THE SECOND FORM's CARD OF 'laws.FnExBent'. -/
def fnExBentUptoCard : Claim7 := { stood := { row := fnExBentUptoRow, standIns := [], harness := (true, "6fb32411ef41ced9ad7fc2f9d877eaac5c57aea75c9149cefa0a68f2837683b1"), looks := true }, kinds := [], alts := [], laidByText := true, laidKinds := [.data, .data, .data, .widerDeep], laidTests := true, laidLooks := .later }
def FnExBentUptoCardSaid : Prop := Claim7.holds Tryd.pinned (.plain (OpenSpec.upto fnExBentSpec)) fnExBentUptoCard

/-- THE SECOND FORM's CARD OF 'laws.FnExactExRead'. -/
def fnExactExReadUptoCard : Claim7 := { stood := { row := fnExactExReadUptoRow, standIns := [], harness := (true, "6fb32411ef41ced9ad7fc2f9d877eaac5c57aea75c9149cefa0a68f2837683b1"), looks := true }, kinds := [], alts := [], laidByText := true, laidKinds := [.data, .data, .data, .data, .sentinel, .sentinel, .widerDeep, .pinned], laidTests := true, laidLooks := .later }
def FnExactExReadUptoCardSaid : Prop := Claim7.holds Tryd.pinned (.plain (OpenSpec.upto fnExactExReadSpec)) fnExactExReadUptoCard

/-- THE SECOND FORM's CARD OF 'laws.FnEx'. -/
def fnExUptoCard : Claim7 := { stood := { row := fnExUptoRow, standIns := [], harness := (true, "6fb32411ef41ced9ad7fc2f9d877eaac5c57aea75c9149cefa0a68f2837683b1"), looks := true }, kinds := [], alts := [], laidByText := true, laidKinds := [.data, .data, .data, .data, .sentinel, .sentinel, .widerDeep, .pinned], laidTests := true, laidLooks := .later }
def FnExUptoCardSaid : Prop := Claim7.holds Tryd.pinned (.plain (OpenSpec.upto fnExSpec)) fnExUptoCard
end Rows
end Go.Proofs.YtbcdfbiggjfmlaaDoor
