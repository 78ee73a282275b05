/-
  DERIVED. GIVEN WITH THE SEED: THE CARDS: each row of YtmjenjccinfbaaaDoorRows.lean that lists a variable, with what it lists TIED to the program's text (the seventh form; the later family's looks); each row that meets fmt, with fmt's text TOLD by the authors' own Lean function (tested against real Go, not proved from fmt's source: count such statements apart). THE CARD IS WHAT COUNTS. Prove the row's statement (the work); the ties are given (YtmjenjccinfbaaaDoorTie.lean); close each card by the builder's one call (the guide's Derived/Test/ToyasCard.lean, 'card_holds'). Laid BY PROGRAM, IN A SANDBOX (cutbox-door.mjs). By AI agents, Wed Nov 11 2026. No macro, syntax, notation, axiom, sorry.
-/
import Derived.Test.YtmjenjccinfbaaaDoorRows
import GoSem.ClaimSeven
namespace Go.Proofs.YtmjenjccinfbaaaDoor
namespace Rows

/-- THE TIED CARD OF 'sextetlaw15.PointRises'. -/
def pointRisesCard : Claim7 := { stood := { row := pointRisesRow, standIns := [], harness := (true, "701b27edb50e36d9fc0049317ff9f83c0b18de6362d050f6ae37cdab54c623de"), looks := true }, kinds := [], alts := [], laidByText := true, laidKinds := [.sentinel, .sentinel, .sentinel], laidTests := true, laidLooks := .later }
def PointRisesCardSaid : Prop := Claim7.holds Tryd.pinned (.plain (OpenSpec.ofChange pointRisesSpec)) pointRisesCard

/-- THE TIED CARD OF 'sextetlaw15.PointSpans'. -/
def pointSpansCard : Claim7 := { stood := { row := pointSpansRow, standIns := [], harness := (true, "701b27edb50e36d9fc0049317ff9f83c0b18de6362d050f6ae37cdab54c623de"), looks := true }, kinds := [], alts := [], laidByText := true, laidKinds := [.sentinel, .sentinel, .sentinel, .sentinel, .sentinel, .sentinel, .sentinel, .sentinel, .sentinel, .sentinel, .sentinel, .sentinel, .sentinel, .sentinel, .sentinel, .sentinel, .sentinel], laidTests := true, laidLooks := .later }
def PointSpansCardSaid : Prop := Claim7.holds Tryd.pinned (.plain (OpenSpec.ofChange pointSpansSpec)) pointSpansCard

/-- THE TIED CARD OF 'sextetlaw16.LsnPlays'. -/
def lsnPlaysCard : Claim7 := { stood := { row := lsnPlaysRow, standIns := [], harness := (true, "701b27edb50e36d9fc0049317ff9f83c0b18de6362d050f6ae37cdab54c623de"), looks := true }, kinds := [], alts := [], laidByText := true, laidKinds := [.sentinel, .sentinel, .sentinel, .sentinel, .sentinel, .sentinel, .sentinel, .sentinel, .sentinel, .sentinel, .sentinel, .sentinel, .sentinel, .sentinel, .sentinel, .sentinel, .sentinel], laidTests := true, laidLooks := .later }
def LsnPlaysCardSaid : Prop := Claim7.holds Tryd.pinned (.plain (OpenSpec.ofChange lsnPlaysSpec)) lsnPlaysCard

/-- THE TIED CARD OF 'sextetlaw16.LsnLimit'. -/
def lsnLimitCard : Claim7 := { stood := { row := lsnLimitRow, standIns := [], harness := (true, "701b27edb50e36d9fc0049317ff9f83c0b18de6362d050f6ae37cdab54c623de"), looks := true }, kinds := [], alts := [], laidByText := true, laidKinds := [.sentinel, .sentinel, .sentinel, .sentinel, .sentinel, .sentinel, .sentinel, .sentinel, .sentinel, .sentinel, .sentinel, .sentinel, .sentinel, .sentinel, .sentinel, .sentinel, .sentinel], laidTests := true, laidLooks := .later }
def LsnLimitCardSaid : Prop := Claim7.holds Tryd.pinned (.plain (OpenSpec.ofChange lsnLimitSpec)) lsnLimitCard

/-- THE TIED CARD OF 'sextetlaw16.LsnSpans'. -/
def lsnSpansCard : Claim7 := { stood := { row := lsnSpansRow, standIns := [], harness := (true, "701b27edb50e36d9fc0049317ff9f83c0b18de6362d050f6ae37cdab54c623de"), looks := true }, kinds := [], alts := [], laidByText := true, laidKinds := [.sentinel, .sentinel, .sentinel, .sentinel, .sentinel, .sentinel, .sentinel, .sentinel, .sentinel, .sentinel, .sentinel, .sentinel, .sentinel, .sentinel, .sentinel, .sentinel, .sentinel], laidTests := true, laidLooks := .later }
def LsnSpansCardSaid : Prop := Claim7.holds Tryd.pinned (.plain (OpenSpec.ofChange lsnSpansSpec)) lsnSpansCard

/-- THE TIED CARD OF 'sextetlaw16.LsnEnd'. -/
def lsnEndCard : Claim7 := { stood := { row := lsnEndRow, standIns := [], harness := (true, "701b27edb50e36d9fc0049317ff9f83c0b18de6362d050f6ae37cdab54c623de"), looks := true }, kinds := [], alts := [], laidByText := true, laidKinds := [.sentinel, .sentinel, .sentinel, .sentinel, .sentinel, .sentinel, .sentinel, .sentinel, .sentinel, .sentinel, .sentinel, .sentinel, .sentinel, .sentinel, .sentinel, .sentinel, .sentinel], laidTests := true, laidLooks := .later }
def LsnEndCardSaid : Prop := Claim7.holds Tryd.pinned (.plain (OpenSpec.ofChange lsnEndSpec)) lsnEndCard

/-- THE TIED CARD OF 'sextetlaw15.PointLasts'. -/
def pointLastsCard : Claim7 := { stood := { row := pointLastsRow, standIns := [], harness := (true, "701b27edb50e36d9fc0049317ff9f83c0b18de6362d050f6ae37cdab54c623de"), looks := true }, kinds := [], alts := [], laidByText := true, laidKinds := [.sentinel, .sentinel, .sentinel], laidTests := true, laidLooks := .later }
def PointLastsCardSaid : Prop := Claim7.holds Tryd.pinned (.plain (OpenSpec.ofChange pointLastsSpec)) pointLastsCard

/-- THE TIED CARD OF 'sextetlaw15.PointOne'. -/
def pointOneCard : Claim7 := { stood := { row := pointOneRow, standIns := [], harness := (true, "701b27edb50e36d9fc0049317ff9f83c0b18de6362d050f6ae37cdab54c623de"), looks := true }, kinds := [], alts := [], laidByText := true, laidKinds := [.sentinel, .sentinel, .sentinel], laidTests := true, laidLooks := .later }
def PointOneCardSaid : Prop := Claim7.holds Tryd.pinned (.plain (OpenSpec.ofChange pointOneSpec)) pointOneCard

/-- THE TIED CARD OF 'sextetlaw15.PointPlays'. -/
def pointPlaysCard : Claim7 := { stood := { row := pointPlaysRow, standIns := [], harness := (true, "701b27edb50e36d9fc0049317ff9f83c0b18de6362d050f6ae37cdab54c623de"), looks := true }, kinds := [], alts := [], laidByText := true, laidKinds := [.sentinel, .sentinel, .sentinel, .sentinel, .sentinel, .sentinel, .sentinel, .sentinel, .sentinel, .sentinel, .sentinel, .sentinel, .sentinel, .sentinel, .sentinel, .sentinel, .sentinel], laidTests := true, laidLooks := .later }
def PointPlaysCardSaid : Prop := Claim7.holds Tryd.pinned (.plain (OpenSpec.ofChange pointPlaysSpec)) pointPlaysCard

/-- THE TIED CARD OF 'sextetlaw26.NetBounds'. -/
def netBoundsCard : Claim7 := { stood := { row := netBoundsRow, standIns := [], harness := (true, "701b27edb50e36d9fc0049317ff9f83c0b18de6362d050f6ae37cdab54c623de"), looks := true }, kinds := [], alts := [], laidByText := true, laidKinds := [.sentinel, .sentinel, .sentinel, .sentinel], laidTests := true, laidLooks := .later }
def NetBoundsCardSaid : Prop := Claim7.holds Tryd.pinned (.plain (OpenSpec.ofChange netBoundsSpec)) netBoundsCard

/-- THE TIED CARD OF 'sextetlaw26.NetOrder'. -/
def netOrderCard : Claim7 := { stood := { row := netOrderRow, standIns := [], harness := (true, "701b27edb50e36d9fc0049317ff9f83c0b18de6362d050f6ae37cdab54c623de"), looks := true }, kinds := [], alts := [], laidByText := true, laidKinds := [.sentinel, .sentinel, .sentinel, .sentinel], laidTests := true, laidLooks := .later }
def NetOrderCardSaid : Prop := Claim7.holds Tryd.pinned (.plain (OpenSpec.ofChange netOrderSpec)) netOrderCard

/-- THE TIED CARD OF 'sextetlaw26.NetPlays'. -/
def netPlaysCard : Claim7 := { stood := { row := netPlaysRow, standIns := [], harness := (true, "701b27edb50e36d9fc0049317ff9f83c0b18de6362d050f6ae37cdab54c623de"), looks := true }, kinds := [], alts := [], laidByText := true, laidKinds := [.sentinel, .sentinel, .sentinel, .sentinel], laidTests := true, laidLooks := .later }
def NetPlaysCardSaid : Prop := Claim7.holds Tryd.pinned (.plain (OpenSpec.ofChange netPlaysSpec)) netPlaysCard

/-- THE SECOND FORM's CARD OF 'sextetlaw15.PointRises'. -/
def pointRisesUptoCard : Claim7 := { stood := { row := pointRisesUptoRow, standIns := [], harness := (true, "701b27edb50e36d9fc0049317ff9f83c0b18de6362d050f6ae37cdab54c623de"), looks := true }, kinds := [], alts := [], laidByText := true, laidKinds := [.sentinel, .sentinel, .sentinel], laidTests := true, laidLooks := .later }
def PointRisesUptoCardSaid : Prop := Claim7.holds Tryd.pinned (.plain (OpenSpec.upto pointRisesSpec)) pointRisesUptoCard

/-- THE SECOND FORM's CARD OF 'sextetlaw15.PointSpans'. -/
def pointSpansUptoCard : Claim7 := { stood := { row := pointSpansUptoRow, standIns := [], harness := (true, "701b27edb50e36d9fc0049317ff9f83c0b18de6362d050f6ae37cdab54c623de"), looks := true }, kinds := [], alts := [], laidByText := true, laidKinds := [.sentinel, .sentinel, .sentinel, .sentinel, .sentinel, .sentinel, .sentinel, .sentinel, .sentinel, .sentinel, .sentinel, .sentinel, .sentinel, .sentinel, .sentinel, .sentinel, .sentinel], laidTests := true, laidLooks := .later }
def PointSpansUptoCardSaid : Prop := Claim7.holds Tryd.pinned (.plain (OpenSpec.upto pointSpansSpec)) pointSpansUptoCard

/-- THE SECOND FORM's CARD OF 'sextetlaw16.LsnPlays'. -/
def lsnPlaysUptoCard : Claim7 := { stood := { row := lsnPlaysUptoRow, standIns := [], harness := (true, "701b27edb50e36d9fc0049317ff9f83c0b18de6362d050f6ae37cdab54c623de"), looks := true }, kinds := [], alts := [], laidByText := true, laidKinds := [.sentinel, .sentinel, .sentinel, .sentinel, .sentinel, .sentinel, .sentinel, .sentinel, .sentinel, .sentinel, .sentinel, .sentinel, .sentinel, .sentinel, .sentinel, .sentinel, .sentinel], laidTests := true, laidLooks := .later }
def LsnPlaysUptoCardSaid : Prop := Claim7.holds Tryd.pinned (.plain (OpenSpec.upto lsnPlaysSpec)) lsnPlaysUptoCard

/-- THE SECOND FORM's CARD OF 'sextetlaw16.LsnLimit'. -/
def lsnLimitUptoCard : Claim7 := { stood := { row := lsnLimitUptoRow, standIns := [], harness := (true, "701b27edb50e36d9fc0049317ff9f83c0b18de6362d050f6ae37cdab54c623de"), looks := true }, kinds := [], alts := [], laidByText := true, laidKinds := [.sentinel, .sentinel, .sentinel, .sentinel, .sentinel, .sentinel, .sentinel, .sentinel, .sentinel, .sentinel, .sentinel, .sentinel, .sentinel, .sentinel, .sentinel, .sentinel, .sentinel], laidTests := true, laidLooks := .later }
def LsnLimitUptoCardSaid : Prop := Claim7.holds Tryd.pinned (.plain (OpenSpec.upto lsnLimitSpec)) lsnLimitUptoCard

/-- THE SECOND FORM's CARD OF 'sextetlaw16.LsnSpans'. -/
def lsnSpansUptoCard : Claim7 := { stood := { row := lsnSpansUptoRow, standIns := [], harness := (true, "701b27edb50e36d9fc0049317ff9f83c0b18de6362d050f6ae37cdab54c623de"), looks := true }, kinds := [], alts := [], laidByText := true, laidKinds := [.sentinel, .sentinel, .sentinel, .sentinel, .sentinel, .sentinel, .sentinel, .sentinel, .sentinel, .sentinel, .sentinel, .sentinel, .sentinel, .sentinel, .sentinel, .sentinel, .sentinel], laidTests := true, laidLooks := .later }
def LsnSpansUptoCardSaid : Prop := Claim7.holds Tryd.pinned (.plain (OpenSpec.upto lsnSpansSpec)) lsnSpansUptoCard

/-- THE SECOND FORM's CARD OF 'sextetlaw16.LsnEnd'. -/
def lsnEndUptoCard : Claim7 := { stood := { row := lsnEndUptoRow, standIns := [], harness := (true, "701b27edb50e36d9fc0049317ff9f83c0b18de6362d050f6ae37cdab54c623de"), looks := true }, kinds := [], alts := [], laidByText := true, laidKinds := [.sentinel, .sentinel, .sentinel, .sentinel, .sentinel, .sentinel, .sentinel, .sentinel, .sentinel, .sentinel, .sentinel, .sentinel, .sentinel, .sentinel, .sentinel, .sentinel, .sentinel], laidTests := true, laidLooks := .later }
def LsnEndUptoCardSaid : Prop := Claim7.holds Tryd.pinned (.plain (OpenSpec.upto lsnEndSpec)) lsnEndUptoCard

/-- THE SECOND FORM's CARD OF 'sextetlaw15.PointLasts'. -/
def pointLastsUptoCard : Claim7 := { stood := { row := pointLastsUptoRow, standIns := [], harness := (true, "701b27edb50e36d9fc0049317ff9f83c0b18de6362d050f6ae37cdab54c623de"), looks := true }, kinds := [], alts := [], laidByText := true, laidKinds := [.sentinel, .sentinel, .sentinel], laidTests := true, laidLooks := .later }
def PointLastsUptoCardSaid : Prop := Claim7.holds Tryd.pinned (.plain (OpenSpec.upto pointLastsSpec)) pointLastsUptoCard

/-- THE SECOND FORM's CARD OF 'sextetlaw15.PointOne'. -/
def pointOneUptoCard : Claim7 := { stood := { row := pointOneUptoRow, standIns := [], harness := (true, "701b27edb50e36d9fc0049317ff9f83c0b18de6362d050f6ae37cdab54c623de"), looks := true }, kinds := [], alts := [], laidByText := true, laidKinds := [.sentinel, .sentinel, .sentinel], laidTests := true, laidLooks := .later }
def PointOneUptoCardSaid : Prop := Claim7.holds Tryd.pinned (.plain (OpenSpec.upto pointOneSpec)) pointOneUptoCard

/-- THE SECOND FORM's CARD OF 'sextetlaw15.PointPlays'. -/
def pointPlaysUptoCard : Claim7 := { stood := { row := pointPlaysUptoRow, standIns := [], harness := (true, "701b27edb50e36d9fc0049317ff9f83c0b18de6362d050f6ae37cdab54c623de"), looks := true }, kinds := [], alts := [], laidByText := true, laidKinds := [.sentinel, .sentinel, .sentinel, .sentinel, .sentinel, .sentinel, .sentinel, .sentinel, .sentinel, .sentinel, .sentinel, .sentinel, .sentinel, .sentinel, .sentinel, .sentinel, .sentinel], laidTests := true, laidLooks := .later }
def PointPlaysUptoCardSaid : Prop := Claim7.holds Tryd.pinned (.plain (OpenSpec.upto pointPlaysSpec)) pointPlaysUptoCard

/-- THE SECOND FORM's CARD OF 'sextetlaw26.NetBounds'. -/
def netBoundsUptoCard : Claim7 := { stood := { row := netBoundsUptoRow, standIns := [], harness := (true, "701b27edb50e36d9fc0049317ff9f83c0b18de6362d050f6ae37cdab54c623de"), looks := true }, kinds := [], alts := [], laidByText := true, laidKinds := [.sentinel, .sentinel, .sentinel, .sentinel], laidTests := true, laidLooks := .later }
def NetBoundsUptoCardSaid : Prop := Claim7.holds Tryd.pinned (.plain (OpenSpec.upto netBoundsSpec)) netBoundsUptoCard

/-- THE SECOND FORM's CARD OF 'sextetlaw26.NetOrder'. -/
def netOrderUptoCard : Claim7 := { stood := { row := netOrderUptoRow, standIns := [], harness := (true, "701b27edb50e36d9fc0049317ff9f83c0b18de6362d050f6ae37cdab54c623de"), looks := true }, kinds := [], alts := [], laidByText := true, laidKinds := [.sentinel, .sentinel, .sentinel, .sentinel], laidTests := true, laidLooks := .later }
def NetOrderUptoCardSaid : Prop := Claim7.holds Tryd.pinned (.plain (OpenSpec.upto netOrderSpec)) netOrderUptoCard

/-- THE SECOND FORM's CARD OF 'sextetlaw26.NetPlays'. -/
def netPlaysUptoCard : Claim7 := { stood := { row := netPlaysUptoRow, standIns := [], harness := (true, "701b27edb50e36d9fc0049317ff9f83c0b18de6362d050f6ae37cdab54c623de"), looks := true }, kinds := [], alts := [], laidByText := true, laidKinds := [.sentinel, .sentinel, .sentinel, .sentinel], laidTests := true, laidLooks := .later }
def NetPlaysUptoCardSaid : Prop := Claim7.holds Tryd.pinned (.plain (OpenSpec.upto netPlaysSpec)) netPlaysUptoCard
end Rows
end Go.Proofs.YtmjenjccinfbaaaDoor
