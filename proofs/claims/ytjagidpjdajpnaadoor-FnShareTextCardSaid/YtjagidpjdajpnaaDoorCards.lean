/-
  DERIVED. GIVEN WITH THE SEED: THE CARDS: each row of YtjagidpjdajpnaaDoorRows.lean that lists a variable, with what it lists TIED to the program's text (the seventh form; the later family's looks); each row that meets fmt, with fmt's text TOLD by the authors' own Lean function (tested against real Go, not proved from fmt's source: count such statements apart). THE CARD IS WHAT COUNTS. Prove the row's statement (the work); the ties are given (YtjagidpjdajpnaaDoorTie.lean); close each card by the builder's one call (the guide's Derived/Test/ToyasCard.lean, 'card_holds'). Laid BY PROGRAM, IN A SANDBOX (cutbox-door.mjs). By AI agents, Wed Nov 11 2026. No macro, syntax, notation, axiom, sorry.
-/
import Derived.Test.YtjagidpjdajpnaaDoorRows
import GoSem.ClaimSeven
namespace Go.Proofs.YtjagidpjdajpnaaDoor
namespace Rows

/-- THE TIED CARD OF 'laws.FnExactReadShare'. -/
def fnExactReadShareCard : Claim7 := { stood := { row := fnExactReadShareRow, standIns := [], harness := (true, "ee89b8d19be12fbc0bbf15fda74f03d88f2daf3d05b8798b69cf701f71b7bbe1"), looks := true }, kinds := [], alts := [], laidByText := true, laidKinds := [.data, .data, .data, .sentinel, .sentinel], laidTests := true, laidLooks := .later }
def FnExactReadShareCardSaid : Prop := Claim7.holds Tryd.pinned (.plain (OpenSpec.ofChange fnExactReadShareSpec)) fnExactReadShareCard

/-- THE TIED CARD OF 'laws.FnShareText'. -/
def fnShareTextCard : Claim7 := { stood := { row := fnShareTextRow, standIns := [], harness := (true, "ee89b8d19be12fbc0bbf15fda74f03d88f2daf3d05b8798b69cf701f71b7bbe1"), looks := true }, kinds := [], alts := [], laidByText := true, laidKinds := [.data, .data, .data, .sentinel, .sentinel], laidTests := true, laidLooks := .later }
def FnShareTextCardSaid : Prop := Claim7.holds Tryd.pinned (.plain (OpenSpec.ofChange fnShareTextSpec)) fnShareTextCard

/-- THE SECOND FORM's CARD OF 'laws.FnExactReadShare'. -/
def fnExactReadShareUptoCard : Claim7 := { stood := { row := fnExactReadShareUptoRow, standIns := [], harness := (true, "ee89b8d19be12fbc0bbf15fda74f03d88f2daf3d05b8798b69cf701f71b7bbe1"), looks := true }, kinds := [], alts := [], laidByText := true, laidKinds := [.data, .data, .data, .sentinel, .sentinel], laidTests := true, laidLooks := .later }
def FnExactReadShareUptoCardSaid : Prop := Claim7.holds Tryd.pinned (.plain (OpenSpec.upto fnExactReadShareSpec)) fnExactReadShareUptoCard

/-- THE SECOND FORM's CARD OF 'laws.FnShareText'. -/
def fnShareTextUptoCard : Claim7 := { stood := { row := fnShareTextUptoRow, standIns := [], harness := (true, "ee89b8d19be12fbc0bbf15fda74f03d88f2daf3d05b8798b69cf701f71b7bbe1"), looks := true }, kinds := [], alts := [], laidByText := true, laidKinds := [.data, .data, .data, .sentinel, .sentinel], laidTests := true, laidLooks := .later }
def FnShareTextUptoCardSaid : Prop := Claim7.holds Tryd.pinned (.plain (OpenSpec.upto fnShareTextSpec)) fnShareTextUptoCard
end Rows
end Go.Proofs.YtjagidpjdajpnaaDoor
