/-
  DERIVED. GIVEN WITH THE SEED: THE CARDS: each row of YtiebpoikhijbgaaDoorRows.lean that lists a variable, with what it lists TIED to the program's text (the seventh form; the later family's looks); each row that meets fmt, with fmt's text TOLD by the authors' own Lean function (tested against real Go, not proved from fmt's source: count such statements apart). THE CARD IS WHAT COUNTS. Prove the row's statement (the work); the ties are given (YtiebpoikhijbgaaDoorTie.lean); close each card by the builder's one call (the guide's Derived/Test/ToyasCard.lean, 'card_holds'). Laid BY PROGRAM, IN A SANDBOX (cutbox-door.mjs). By AI agents, Wed Nov 11 2026. No macro, syntax, notation, axiom, sorry.
-/
import Derived.Test.YtiebpoikhijbgaaDoorRows
import GoSem.ClaimSeven
namespace Go.Proofs.YtiebpoikhijbgaaDoor
namespace Rows

/-- THE TIED CARD OF 'laws.FnEv'. -/
def fnEvCard : Claim7 := { stood := { row := fnEvRow, standIns := [], harness := (true, "0a78e12997d32b64cffc6ad6289589ed599f54fd1ee6dcfc4b9d027513bd9f7d"), looks := true }, kinds := [], alts := [], laidByText := true, laidKinds := [.data, .data, .data, .data, .sentinel, .sentinel, .pinned], laidTests := true, laidLooks := .later }
def FnEvCardSaid : Prop := Claim7.holds Tryd.pinned (.plain (OpenSpec.ofChange fnEvSpec)) fnEvCard

/-- THE TIED CARD OF 'laws.FnExactEvsText'. -/
def fnExactEvsTextCard : Claim7 := { stood := { row := fnExactEvsTextRow, standIns := [], harness := (true, "0a78e12997d32b64cffc6ad6289589ed599f54fd1ee6dcfc4b9d027513bd9f7d"), looks := true }, kinds := [], alts := [], laidByText := true, laidKinds := [.data, .data, .data], laidTests := true, laidLooks := .later }
def FnExactEvsTextCardSaid : Prop := Claim7.holds Tryd.pinned (.plain (OpenSpec.ofChange fnExactEvsTextSpec)) fnExactEvsTextCard

/-- THE TIED CARD OF 'laws.FnExactEvsRead'. -/
def fnExactEvsReadCard : Claim7 := { stood := { row := fnExactEvsReadRow, standIns := [], harness := (true, "0a78e12997d32b64cffc6ad6289589ed599f54fd1ee6dcfc4b9d027513bd9f7d"), looks := true }, kinds := [], alts := [], laidByText := true, laidKinds := [.data, .data, .data, .data, .sentinel, .sentinel, .pinned], laidTests := true, laidLooks := .later }
def FnExactEvsReadCardSaid : Prop := Claim7.holds Tryd.pinned (.plain (OpenSpec.ofChange fnExactEvsReadSpec)) fnExactEvsReadCard

/-- THE SECOND FORM's CARD OF 'laws.FnEv'. -/
def fnEvUptoCard : Claim7 := { stood := { row := fnEvUptoRow, standIns := [], harness := (true, "0a78e12997d32b64cffc6ad6289589ed599f54fd1ee6dcfc4b9d027513bd9f7d"), looks := true }, kinds := [], alts := [], laidByText := true, laidKinds := [.data, .data, .data, .data, .sentinel, .sentinel, .pinned], laidTests := true, laidLooks := .later }
def FnEvUptoCardSaid : Prop := Claim7.holds Tryd.pinned (.plain (OpenSpec.upto fnEvSpec)) fnEvUptoCard

/-- THE SECOND FORM's CARD OF 'laws.FnExactEvsText'. -/
def fnExactEvsTextUptoCard : Claim7 := { stood := { row := fnExactEvsTextUptoRow, standIns := [], harness := (true, "0a78e12997d32b64cffc6ad6289589ed599f54fd1ee6dcfc4b9d027513bd9f7d"), looks := true }, kinds := [], alts := [], laidByText := true, laidKinds := [.data, .data, .data], laidTests := true, laidLooks := .later }
def FnExactEvsTextUptoCardSaid : Prop := Claim7.holds Tryd.pinned (.plain (OpenSpec.upto fnExactEvsTextSpec)) fnExactEvsTextUptoCard

/-- THE SECOND FORM's CARD OF 'laws.FnExactEvsRead'. -/
def fnExactEvsReadUptoCard : Claim7 := { stood := { row := fnExactEvsReadUptoRow, standIns := [], harness := (true, "0a78e12997d32b64cffc6ad6289589ed599f54fd1ee6dcfc4b9d027513bd9f7d"), looks := true }, kinds := [], alts := [], laidByText := true, laidKinds := [.data, .data, .data, .data, .sentinel, .sentinel, .pinned], laidTests := true, laidLooks := .later }
def FnExactEvsReadUptoCardSaid : Prop := Claim7.holds Tryd.pinned (.plain (OpenSpec.upto fnExactEvsReadSpec)) fnExactEvsReadUptoCard
end Rows
end Go.Proofs.YtiebpoikhijbgaaDoor
