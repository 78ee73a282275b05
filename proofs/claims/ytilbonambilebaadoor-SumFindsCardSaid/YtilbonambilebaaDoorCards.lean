/-
  DERIVED. GIVEN WITH THE SEED: THE CARDS: each row of YtilbonambilebaaDoorRows.lean that lists a variable, with what it lists TIED to the program's text (the seventh form; the later family's looks); each row that meets fmt, with fmt's text TOLD by the authors' own Lean function (tested against real Go, not proved from fmt's source: count such statements apart). THE CARD IS WHAT COUNTS. Prove the row's statement (the work); the ties are given (YtilbonambilebaaDoorTie.lean); close each card by the builder's one call (the guide's Derived/Test/ToyasCard.lean, 'card_holds'). Laid BY PROGRAM, IN A SANDBOX (cutbox-door.mjs). By AI agents, Wed Nov 11 2026. No macro, syntax, notation, axiom, sorry.
-/
import Derived.Test.YtilbonambilebaaDoorRows
import GoSem.ClaimSeven
namespace Go.Proofs.YtilbonambilebaaDoor
namespace Rows

/-- THE TIED CARD OF 'sextetlaw1.SumSays'. -/
def sumSaysCard : Claim7 := { stood := { row := sumSaysRow, standIns := [], harness := (true, "b3361ed194c7137fabba1f803f3d53ce6b15bfd588b55ffd9d8dcc83b49c4ce9"), looks := true }, kinds := [], alts := [], laidByText := true, laidKinds := [.sentinel, .sentinel, .sentinel, .sentinel, .sentinel, .sentinel, .sentinel, .sentinel, .sentinel, .sentinel, .sentinel, .sentinel, .sentinel, .sentinel, .sentinel, .sentinel, .sentinel], laidTests := true, laidLooks := .later }
def SumSaysCardSaid : Prop := Claim7.holds Tryd.pinned (.plain (OpenSpec.ofChange sumSaysSpec)) sumSaysCard

/-- THE TIED CARD OF 'sextetlaw1.SumFinds'. -/
def sumFindsCard : Claim7 := { stood := { row := sumFindsRow, standIns := [], harness := (true, "b3361ed194c7137fabba1f803f3d53ce6b15bfd588b55ffd9d8dcc83b49c4ce9"), looks := true }, kinds := [], alts := [], laidByText := true, laidKinds := [.sentinel, .sentinel], laidTests := true, laidLooks := .later }
def SumFindsCardSaid : Prop := Claim7.holds Tryd.pinned (.plain (OpenSpec.ofChange sumFindsSpec)) sumFindsCard

/-- THE TIED CARD OF 'sextetlaw1.SumSealed'. -/
def sumSealedCard : Claim7 := { stood := { row := sumSealedRow, standIns := [], harness := (true, "b3361ed194c7137fabba1f803f3d53ce6b15bfd588b55ffd9d8dcc83b49c4ce9"), looks := true }, kinds := [], alts := [], laidByText := true, laidKinds := [.sentinel, .sentinel, .sentinel, .sentinel, .sentinel, .sentinel, .sentinel, .sentinel, .sentinel, .sentinel, .sentinel, .sentinel, .sentinel, .sentinel, .sentinel, .sentinel, .sentinel], laidTests := true, laidLooks := .later }
def SumSealedCardSaid : Prop := Claim7.holds Tryd.pinned (.plain (OpenSpec.ofChange sumSealedSpec)) sumSealedCard

/-- THE SECOND FORM's CARD OF 'sextetlaw1.SumSays'. -/
def sumSaysUptoCard : Claim7 := { stood := { row := sumSaysUptoRow, standIns := [], harness := (true, "b3361ed194c7137fabba1f803f3d53ce6b15bfd588b55ffd9d8dcc83b49c4ce9"), looks := true }, kinds := [], alts := [], laidByText := true, laidKinds := [.sentinel, .sentinel, .sentinel, .sentinel, .sentinel, .sentinel, .sentinel, .sentinel, .sentinel, .sentinel, .sentinel, .sentinel, .sentinel, .sentinel, .sentinel, .sentinel, .sentinel], laidTests := true, laidLooks := .later }
def SumSaysUptoCardSaid : Prop := Claim7.holds Tryd.pinned (.plain (OpenSpec.upto sumSaysSpec)) sumSaysUptoCard

/-- THE SECOND FORM's CARD OF 'sextetlaw1.SumFinds'. -/
def sumFindsUptoCard : Claim7 := { stood := { row := sumFindsUptoRow, standIns := [], harness := (true, "b3361ed194c7137fabba1f803f3d53ce6b15bfd588b55ffd9d8dcc83b49c4ce9"), looks := true }, kinds := [], alts := [], laidByText := true, laidKinds := [.sentinel, .sentinel], laidTests := true, laidLooks := .later }
def SumFindsUptoCardSaid : Prop := Claim7.holds Tryd.pinned (.plain (OpenSpec.upto sumFindsSpec)) sumFindsUptoCard

/-- THE SECOND FORM's CARD OF 'sextetlaw1.SumSealed'. -/
def sumSealedUptoCard : Claim7 := { stood := { row := sumSealedUptoRow, standIns := [], harness := (true, "b3361ed194c7137fabba1f803f3d53ce6b15bfd588b55ffd9d8dcc83b49c4ce9"), looks := true }, kinds := [], alts := [], laidByText := true, laidKinds := [.sentinel, .sentinel, .sentinel, .sentinel, .sentinel, .sentinel, .sentinel, .sentinel, .sentinel, .sentinel, .sentinel, .sentinel, .sentinel, .sentinel, .sentinel, .sentinel, .sentinel], laidTests := true, laidLooks := .later }
def SumSealedUptoCardSaid : Prop := Claim7.holds Tryd.pinned (.plain (OpenSpec.upto sumSealedSpec)) sumSealedUptoCard
end Rows
end Go.Proofs.YtilbonambilebaaDoor
