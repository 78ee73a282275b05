/-
  DERIVED. GIVEN WITH THE SEED: THE CARDS: each row of YtkmilijehekdoaaDoorRows.lean that lists a variable, with what it lists TIED to the program's text (the seventh form; the later family's looks); each row that meets fmt, with fmt's text TOLD by the authors' own Lean function (tested against real Go, not proved from fmt's source: count such statements apart). THE CARD IS WHAT COUNTS. Prove the row's statement (the work); the ties are given (YtkmilijehekdoaaDoorTie.lean); close each card by the builder's one call (the guide's Derived/Test/ToyasCard.lean, 'card_holds'). Laid BY PROGRAM, IN A SANDBOX (cutbox-door.mjs). By AI agents, Wed Nov 11 2026. No macro, syntax, notation, axiom, sorry.
-/
import Derived.Test.YtkmilijehekdoaaDoorRows
import GoSem.ClaimSeven
namespace Go.Proofs.YtkmilijehekdoaaDoor
namespace Rows

/-- THE TIED CARD OF 'sextetlaw6.QuorCounts'. -/
def quorCountsCard : Claim7 := { stood := { row := quorCountsRow, standIns := [], harness := (true, "5ce6bc772e000b63dbb889ff413b99ff223df018dd399b5e7b9b3e7726becdd3"), looks := true }, kinds := [], alts := [], laidByText := true, laidKinds := [.sentinel, .sentinel], laidTests := true, laidLooks := .later }
def QuorCountsCardSaid : Prop := Claim7.holds Tryd.pinned (.plain (OpenSpec.ofChange quorCountsSpec)) quorCountsCard

/-- THE TIED CARD OF 'sextetlaw6.QuorMeets'. -/
def quorMeetsCard : Claim7 := { stood := { row := quorMeetsRow, standIns := [], harness := (true, "5ce6bc772e000b63dbb889ff413b99ff223df018dd399b5e7b9b3e7726becdd3"), looks := true }, kinds := [], alts := [], laidByText := true, laidKinds := [.sentinel, .sentinel, .sentinel, .sentinel, .sentinel, .sentinel, .sentinel, .sentinel, .sentinel, .sentinel, .sentinel, .sentinel, .sentinel, .sentinel, .sentinel, .sentinel, .sentinel], laidTests := true, laidLooks := .later }
def QuorMeetsCardSaid : Prop := Claim7.holds Tryd.pinned (.plain (OpenSpec.ofChange quorMeetsSpec)) quorMeetsCard

/-- THE TIED CARD OF 'sextetlaw6.QuorJoins'. -/
def quorJoinsCard : Claim7 := { stood := { row := quorJoinsRow, standIns := [], harness := (true, "5ce6bc772e000b63dbb889ff413b99ff223df018dd399b5e7b9b3e7726becdd3"), looks := true }, kinds := [], alts := [], laidByText := true, laidKinds := [.sentinel, .sentinel], laidTests := true, laidLooks := .later }
def QuorJoinsCardSaid : Prop := Claim7.holds Tryd.pinned (.plain (OpenSpec.ofChange quorJoinsSpec)) quorJoinsCard

/-- THE TIED CARD OF 'sextetlaw6.QuorGrows'. -/
def quorGrowsCard : Claim7 := { stood := { row := quorGrowsRow, standIns := [], harness := (true, "5ce6bc772e000b63dbb889ff413b99ff223df018dd399b5e7b9b3e7726becdd3"), looks := true }, kinds := [], alts := [], laidByText := true, laidKinds := [.sentinel, .sentinel, .sentinel, .sentinel, .sentinel, .sentinel, .sentinel, .sentinel, .sentinel, .sentinel, .sentinel, .sentinel, .sentinel, .sentinel, .sentinel, .sentinel, .sentinel], laidTests := true, laidLooks := .later }
def QuorGrowsCardSaid : Prop := Claim7.holds Tryd.pinned (.plain (OpenSpec.ofChange quorGrowsSpec)) quorGrowsCard

/-- THE TIED CARD OF 'sextetlaw6.QuorLeast'. -/
def quorLeastCard : Claim7 := { stood := { row := quorLeastRow, standIns := [], harness := (true, "5ce6bc772e000b63dbb889ff413b99ff223df018dd399b5e7b9b3e7726becdd3"), looks := true }, kinds := [], alts := [], laidByText := true, laidKinds := [.sentinel, .sentinel, .sentinel, .sentinel, .sentinel, .sentinel, .sentinel, .sentinel, .sentinel, .sentinel, .sentinel, .sentinel, .sentinel, .sentinel, .sentinel, .sentinel, .sentinel], laidTests := true, laidLooks := .later }
def QuorLeastCardSaid : Prop := Claim7.holds Tryd.pinned (.plain (OpenSpec.ofChange quorLeastSpec)) quorLeastCard

/-- THE TIED CARD OF 'sextetlaw6.QuorLeasts'. -/
def quorLeastsCard : Claim7 := { stood := { row := quorLeastsRow, standIns := [], harness := (true, "5ce6bc772e000b63dbb889ff413b99ff223df018dd399b5e7b9b3e7726becdd3"), looks := true }, kinds := [], alts := [], laidByText := true, laidKinds := [.sentinel, .sentinel, .sentinel, .sentinel, .sentinel, .sentinel, .sentinel, .sentinel, .sentinel, .sentinel, .sentinel, .sentinel, .sentinel, .sentinel, .sentinel, .sentinel, .sentinel], laidTests := true, laidLooks := .later }
def QuorLeastsCardSaid : Prop := Claim7.holds Tryd.pinned (.plain (OpenSpec.ofChange quorLeastsSpec)) quorLeastsCard

/-- THE TIED CARD OF 'sextetlaw6.QuorSays'. -/
def quorSaysCard : Claim7 := { stood := { row := quorSaysRow, standIns := [], harness := (true, "5ce6bc772e000b63dbb889ff413b99ff223df018dd399b5e7b9b3e7726becdd3"), looks := true }, kinds := [], alts := [], laidByText := true, laidKinds := [.data, .data, .data, .sentinel, .sentinel, .sentinel, .sentinel, .sentinel, .sentinel, .sentinel, .sentinel, .sentinel, .sentinel, .sentinel, .sentinel, .sentinel, .sentinel, .sentinel, .sentinel, .sentinel], laidTests := true, laidLooks := .later }
def QuorSaysCardSaid : Prop := Claim7.holds Tryd.pinned (.plain (OpenSpec.ofChange quorSaysSpec)) quorSaysCard

/-- THE TIED CARD OF 'sextetlaw6.QuorNone'. -/
def quorNoneCard : Claim7 := { stood := { row := quorNoneRow, standIns := [], harness := (true, "5ce6bc772e000b63dbb889ff413b99ff223df018dd399b5e7b9b3e7726becdd3"), looks := true }, kinds := [], alts := [], laidByText := true, laidKinds := [.data, .data, .data, .sentinel, .sentinel], laidTests := true, laidLooks := .later }
def QuorNoneCardSaid : Prop := Claim7.holds Tryd.pinned (.plain (OpenSpec.ofChange quorNoneSpec)) quorNoneCard

/-- THE SECOND FORM's CARD OF 'sextetlaw6.QuorCounts'. -/
def quorCountsUptoCard : Claim7 := { stood := { row := quorCountsUptoRow, standIns := [], harness := (true, "5ce6bc772e000b63dbb889ff413b99ff223df018dd399b5e7b9b3e7726becdd3"), looks := true }, kinds := [], alts := [], laidByText := true, laidKinds := [.sentinel, .sentinel], laidTests := true, laidLooks := .later }
def QuorCountsUptoCardSaid : Prop := Claim7.holds Tryd.pinned (.plain (OpenSpec.upto quorCountsSpec)) quorCountsUptoCard

/-- THE SECOND FORM's CARD OF 'sextetlaw6.QuorMeets'. -/
def quorMeetsUptoCard : Claim7 := { stood := { row := quorMeetsUptoRow, standIns := [], harness := (true, "5ce6bc772e000b63dbb889ff413b99ff223df018dd399b5e7b9b3e7726becdd3"), looks := true }, kinds := [], alts := [], laidByText := true, laidKinds := [.sentinel, .sentinel, .sentinel, .sentinel, .sentinel, .sentinel, .sentinel, .sentinel, .sentinel, .sentinel, .sentinel, .sentinel, .sentinel, .sentinel, .sentinel, .sentinel, .sentinel], laidTests := true, laidLooks := .later }
def QuorMeetsUptoCardSaid : Prop := Claim7.holds Tryd.pinned (.plain (OpenSpec.upto quorMeetsSpec)) quorMeetsUptoCard

/-- THE SECOND FORM's CARD OF 'sextetlaw6.QuorJoins'. -/
def quorJoinsUptoCard : Claim7 := { stood := { row := quorJoinsUptoRow, standIns := [], harness := (true, "5ce6bc772e000b63dbb889ff413b99ff223df018dd399b5e7b9b3e7726becdd3"), looks := true }, kinds := [], alts := [], laidByText := true, laidKinds := [.sentinel, .sentinel], laidTests := true, laidLooks := .later }
def QuorJoinsUptoCardSaid : Prop := Claim7.holds Tryd.pinned (.plain (OpenSpec.upto quorJoinsSpec)) quorJoinsUptoCard

/-- THE SECOND FORM's CARD OF 'sextetlaw6.QuorGrows'. -/
def quorGrowsUptoCard : Claim7 := { stood := { row := quorGrowsUptoRow, standIns := [], harness := (true, "5ce6bc772e000b63dbb889ff413b99ff223df018dd399b5e7b9b3e7726becdd3"), looks := true }, kinds := [], alts := [], laidByText := true, laidKinds := [.sentinel, .sentinel, .sentinel, .sentinel, .sentinel, .sentinel, .sentinel, .sentinel, .sentinel, .sentinel, .sentinel, .sentinel, .sentinel, .sentinel, .sentinel, .sentinel, .sentinel], laidTests := true, laidLooks := .later }
def QuorGrowsUptoCardSaid : Prop := Claim7.holds Tryd.pinned (.plain (OpenSpec.upto quorGrowsSpec)) quorGrowsUptoCard

/-- THE SECOND FORM's CARD OF 'sextetlaw6.QuorLeast'. -/
def quorLeastUptoCard : Claim7 := { stood := { row := quorLeastUptoRow, standIns := [], harness := (true, "5ce6bc772e000b63dbb889ff413b99ff223df018dd399b5e7b9b3e7726becdd3"), looks := true }, kinds := [], alts := [], laidByText := true, laidKinds := [.sentinel, .sentinel, .sentinel, .sentinel, .sentinel, .sentinel, .sentinel, .sentinel, .sentinel, .sentinel, .sentinel, .sentinel, .sentinel, .sentinel, .sentinel, .sentinel, .sentinel], laidTests := true, laidLooks := .later }
def QuorLeastUptoCardSaid : Prop := Claim7.holds Tryd.pinned (.plain (OpenSpec.upto quorLeastSpec)) quorLeastUptoCard

/-- THE SECOND FORM's CARD OF 'sextetlaw6.QuorLeasts'. -/
def quorLeastsUptoCard : Claim7 := { stood := { row := quorLeastsUptoRow, standIns := [], harness := (true, "5ce6bc772e000b63dbb889ff413b99ff223df018dd399b5e7b9b3e7726becdd3"), looks := true }, kinds := [], alts := [], laidByText := true, laidKinds := [.sentinel, .sentinel, .sentinel, .sentinel, .sentinel, .sentinel, .sentinel, .sentinel, .sentinel, .sentinel, .sentinel, .sentinel, .sentinel, .sentinel, .sentinel, .sentinel, .sentinel], laidTests := true, laidLooks := .later }
def QuorLeastsUptoCardSaid : Prop := Claim7.holds Tryd.pinned (.plain (OpenSpec.upto quorLeastsSpec)) quorLeastsUptoCard

/-- THE SECOND FORM's CARD OF 'sextetlaw6.QuorSays'. -/
def quorSaysUptoCard : Claim7 := { stood := { row := quorSaysUptoRow, standIns := [], harness := (true, "5ce6bc772e000b63dbb889ff413b99ff223df018dd399b5e7b9b3e7726becdd3"), looks := true }, kinds := [], alts := [], laidByText := true, laidKinds := [.data, .data, .data, .sentinel, .sentinel, .sentinel, .sentinel, .sentinel, .sentinel, .sentinel, .sentinel, .sentinel, .sentinel, .sentinel, .sentinel, .sentinel, .sentinel, .sentinel, .sentinel, .sentinel], laidTests := true, laidLooks := .later }
def QuorSaysUptoCardSaid : Prop := Claim7.holds Tryd.pinned (.plain (OpenSpec.upto quorSaysSpec)) quorSaysUptoCard

/-- THE SECOND FORM's CARD OF 'sextetlaw6.QuorNone'. -/
def quorNoneUptoCard : Claim7 := { stood := { row := quorNoneUptoRow, standIns := [], harness := (true, "5ce6bc772e000b63dbb889ff413b99ff223df018dd399b5e7b9b3e7726becdd3"), looks := true }, kinds := [], alts := [], laidByText := true, laidKinds := [.data, .data, .data, .sentinel, .sentinel], laidTests := true, laidLooks := .later }
def QuorNoneUptoCardSaid : Prop := Claim7.holds Tryd.pinned (.plain (OpenSpec.upto quorNoneSpec)) quorNoneUptoCard
end Rows
end Go.Proofs.YtkmilijehekdoaaDoor
