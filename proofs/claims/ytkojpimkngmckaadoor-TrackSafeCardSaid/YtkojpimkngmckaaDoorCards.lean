/-
  DERIVED. GIVEN WITH THE SEED: THE CARDS: each row of YtkojpimkngmckaaDoorRows.lean that lists a variable, with what it lists TIED to the program's text (the seventh form; the later family's looks); each row that meets fmt, with fmt's text TOLD by the authors' own Lean function (tested against real Go, not proved from fmt's source: count such statements apart). THE CARD IS WHAT COUNTS. Prove the row's statement (the work); the ties are given (YtkojpimkngmckaaDoorTie.lean); close each card by the builder's one call (the guide's Derived/Test/ToyasCard.lean, 'card_holds'). Laid BY PROGRAM, IN A SANDBOX (cutbox-door.mjs). By AI agents, Wed Nov 11 2026. No macro, syntax, notation, axiom, sorry.
-/
import Derived.Test.YtkojpimkngmckaaDoorRows
import GoSem.ClaimSeven
namespace Go.Proofs.YtkojpimkngmckaaDoor
namespace Rows

/-- THE TIED CARD OF 'sextetlaw7.ConfCounts'. -/
def confCountsCard : Claim7 := { stood := { row := confCountsRow, standIns := [], harness := (true, "031ba59b6494dd5c705037b68f016ec774fb698f4b093b93201b4d9a3b2356e3"), looks := true }, kinds := [], alts := [], laidByText := true, laidKinds := [.sentinel, .sentinel, .sentinel, .sentinel, .sentinel, .sentinel], laidTests := true, laidLooks := .later }
def ConfCountsCardSaid : Prop := Claim7.holds Tryd.pinned (.plain (OpenSpec.ofChange confCountsSpec)) confCountsCard

/-- THE TIED CARD OF 'sextetlaw14.TrackGrows'. -/
def trackGrowsCard : Claim7 := { stood := { row := trackGrowsRow, standIns := [], harness := (true, "031ba59b6494dd5c705037b68f016ec774fb698f4b093b93201b4d9a3b2356e3"), looks := true }, kinds := [], alts := [], laidByText := true, laidKinds := [.sentinel, .sentinel, .sentinel], laidTests := true, laidLooks := .later }
def TrackGrowsCardSaid : Prop := Claim7.holds Tryd.pinned (.plain (OpenSpec.ofChange trackGrowsSpec)) trackGrowsCard

/-- THE TIED CARD OF 'sextetlaw14.TrackDrops'. -/
def trackDropsCard : Claim7 := { stood := { row := trackDropsRow, standIns := [], harness := (true, "031ba59b6494dd5c705037b68f016ec774fb698f4b093b93201b4d9a3b2356e3"), looks := true }, kinds := [], alts := [], laidByText := true, laidKinds := [.sentinel, .sentinel, .sentinel], laidTests := true, laidLooks := .later }
def TrackDropsCardSaid : Prop := Claim7.holds Tryd.pinned (.plain (OpenSpec.ofChange trackDropsSpec)) trackDropsCard

/-- THE TIED CARD OF 'sextetlaw14.TrackBorn'. -/
def trackBornCard : Claim7 := { stood := { row := trackBornRow, standIns := [], harness := (true, "031ba59b6494dd5c705037b68f016ec774fb698f4b093b93201b4d9a3b2356e3"), looks := true }, kinds := [], alts := [], laidByText := true, laidKinds := [.sentinel, .sentinel, .sentinel], laidTests := true, laidLooks := .later }
def TrackBornCardSaid : Prop := Claim7.holds Tryd.pinned (.plain (OpenSpec.ofChange trackBornSpec)) trackBornCard

/-- THE TIED CARD OF 'sextetlaw14.TrackPlays'. -/
def trackPlaysCard : Claim7 := { stood := { row := trackPlaysRow, standIns := [], harness := (true, "031ba59b6494dd5c705037b68f016ec774fb698f4b093b93201b4d9a3b2356e3"), looks := true }, kinds := [], alts := [], laidByText := true, laidKinds := [.sentinel, .sentinel, .sentinel, .sentinel, .sentinel, .sentinel, .sentinel, .sentinel, .sentinel, .sentinel, .sentinel, .sentinel, .sentinel, .sentinel, .sentinel, .sentinel, .sentinel], laidTests := true, laidLooks := .later }
def TrackPlaysCardSaid : Prop := Claim7.holds Tryd.pinned (.plain (OpenSpec.ofChange trackPlaysSpec)) trackPlaysCard

/-- THE TIED CARD OF 'sextetlaw7.ConfSteps'. -/
def confStepsCard : Claim7 := { stood := { row := confStepsRow, standIns := [], harness := (true, "031ba59b6494dd5c705037b68f016ec774fb698f4b093b93201b4d9a3b2356e3"), looks := true }, kinds := [], alts := [], laidByText := true, laidKinds := [.sentinel, .sentinel, .sentinel, .sentinel, .sentinel, .sentinel], laidTests := true, laidLooks := .later }
def ConfStepsCardSaid : Prop := Claim7.holds Tryd.pinned (.plain (OpenSpec.ofChange confStepsSpec)) confStepsCard

/-- THE TIED CARD OF 'sextetlaw14.TrackSafe'. -/
def trackSafeCard : Claim7 := { stood := { row := trackSafeRow, standIns := [], harness := (true, "031ba59b6494dd5c705037b68f016ec774fb698f4b093b93201b4d9a3b2356e3"), looks := true }, kinds := [], alts := [], laidByText := true, laidKinds := [.sentinel, .sentinel, .sentinel, .sentinel, .sentinel, .sentinel], laidTests := true, laidLooks := .later }
def TrackSafeCardSaid : Prop := Claim7.holds Tryd.pinned (.plain (OpenSpec.ofChange trackSafeSpec)) trackSafeCard

/-- THE TIED CARD OF 'sextetlaw7.RegistryIncs'. -/
def registryIncsCard : Claim7 := { stood := { row := registryIncsRow, standIns := [], harness := (true, "031ba59b6494dd5c705037b68f016ec774fb698f4b093b93201b4d9a3b2356e3"), looks := true }, kinds := [], alts := [], laidByText := true, laidKinds := [.sentinel, .sentinel, .sentinel, .sentinel, .sentinel, .sentinel, .sentinel, .sentinel, .sentinel, .sentinel, .sentinel, .sentinel, .sentinel, .sentinel, .sentinel, .sentinel, .sentinel], laidTests := true, laidLooks := .later }
def RegistryIncsCardSaid : Prop := Claim7.holds Tryd.pinned (.plain (OpenSpec.ofChange registryIncsSpec)) registryIncsCard

/-- THE TIED CARD OF 'sextetlaw14.TrackMembers'. -/
def trackMembersCard : Claim7 := { stood := { row := trackMembersRow, standIns := [], harness := (true, "031ba59b6494dd5c705037b68f016ec774fb698f4b093b93201b4d9a3b2356e3"), looks := true }, kinds := [], alts := [], laidByText := true, laidKinds := [.sentinel, .sentinel, .sentinel, .sentinel, .sentinel, .sentinel], laidTests := true, laidLooks := .later }
def TrackMembersCardSaid : Prop := Claim7.holds Tryd.pinned (.plain (OpenSpec.ofChange trackMembersSpec)) trackMembersCard

/-- THE TIED CARD OF 'sextetlaw7.ConfMeets'. -/
def confMeetsCard : Claim7 := { stood := { row := confMeetsRow, standIns := [], harness := (true, "031ba59b6494dd5c705037b68f016ec774fb698f4b093b93201b4d9a3b2356e3"), looks := true }, kinds := [], alts := [], laidByText := true, laidKinds := [.sentinel, .sentinel, .sentinel, .sentinel, .sentinel, .sentinel], laidTests := true, laidLooks := .later }
def ConfMeetsCardSaid : Prop := Claim7.holds Tryd.pinned (.plain (OpenSpec.ofChange confMeetsSpec)) confMeetsCard

/-- THE TIED CARD OF 'sextetlaw7.RegistryFences'. -/
def registryFencesCard : Claim7 := { stood := { row := registryFencesRow, standIns := [], harness := (true, "031ba59b6494dd5c705037b68f016ec774fb698f4b093b93201b4d9a3b2356e3"), looks := true }, kinds := [], alts := [], laidByText := true, laidKinds := [.sentinel, .sentinel, .sentinel, .sentinel, .sentinel, .sentinel, .sentinel, .sentinel, .sentinel, .sentinel, .sentinel, .sentinel, .sentinel, .sentinel, .sentinel, .sentinel, .sentinel], laidTests := true, laidLooks := .later }
def RegistryFencesCardSaid : Prop := Claim7.holds Tryd.pinned (.plain (OpenSpec.ofChange registryFencesSpec)) registryFencesCard

/-- THE TIED CARD OF 'sextetlaw7.RegistryPlays'. -/
def registryPlaysCard : Claim7 := { stood := { row := registryPlaysRow, standIns := [], harness := (true, "031ba59b6494dd5c705037b68f016ec774fb698f4b093b93201b4d9a3b2356e3"), looks := true }, kinds := [], alts := [], laidByText := true, laidKinds := [.sentinel, .sentinel, .sentinel, .sentinel, .sentinel, .sentinel, .sentinel, .sentinel, .sentinel, .sentinel, .sentinel, .sentinel, .sentinel, .sentinel, .sentinel, .sentinel, .sentinel], laidTests := true, laidLooks := .later }
def RegistryPlaysCardSaid : Prop := Claim7.holds Tryd.pinned (.plain (OpenSpec.ofChange registryPlaysSpec)) registryPlaysCard

/-- THE SECOND FORM's CARD OF 'sextetlaw7.ConfCounts'. -/
def confCountsUptoCard : Claim7 := { stood := { row := confCountsUptoRow, standIns := [], harness := (true, "031ba59b6494dd5c705037b68f016ec774fb698f4b093b93201b4d9a3b2356e3"), looks := true }, kinds := [], alts := [], laidByText := true, laidKinds := [.sentinel, .sentinel, .sentinel, .sentinel, .sentinel, .sentinel], laidTests := true, laidLooks := .later }
def ConfCountsUptoCardSaid : Prop := Claim7.holds Tryd.pinned (.plain (OpenSpec.upto confCountsSpec)) confCountsUptoCard

/-- THE SECOND FORM's CARD OF 'sextetlaw14.TrackGrows'. -/
def trackGrowsUptoCard : Claim7 := { stood := { row := trackGrowsUptoRow, standIns := [], harness := (true, "031ba59b6494dd5c705037b68f016ec774fb698f4b093b93201b4d9a3b2356e3"), looks := true }, kinds := [], alts := [], laidByText := true, laidKinds := [.sentinel, .sentinel, .sentinel], laidTests := true, laidLooks := .later }
def TrackGrowsUptoCardSaid : Prop := Claim7.holds Tryd.pinned (.plain (OpenSpec.upto trackGrowsSpec)) trackGrowsUptoCard

/-- THE SECOND FORM's CARD OF 'sextetlaw14.TrackDrops'. -/
def trackDropsUptoCard : Claim7 := { stood := { row := trackDropsUptoRow, standIns := [], harness := (true, "031ba59b6494dd5c705037b68f016ec774fb698f4b093b93201b4d9a3b2356e3"), looks := true }, kinds := [], alts := [], laidByText := true, laidKinds := [.sentinel, .sentinel, .sentinel], laidTests := true, laidLooks := .later }
def TrackDropsUptoCardSaid : Prop := Claim7.holds Tryd.pinned (.plain (OpenSpec.upto trackDropsSpec)) trackDropsUptoCard

/-- THE SECOND FORM's CARD OF 'sextetlaw14.TrackBorn'. -/
def trackBornUptoCard : Claim7 := { stood := { row := trackBornUptoRow, standIns := [], harness := (true, "031ba59b6494dd5c705037b68f016ec774fb698f4b093b93201b4d9a3b2356e3"), looks := true }, kinds := [], alts := [], laidByText := true, laidKinds := [.sentinel, .sentinel, .sentinel], laidTests := true, laidLooks := .later }
def TrackBornUptoCardSaid : Prop := Claim7.holds Tryd.pinned (.plain (OpenSpec.upto trackBornSpec)) trackBornUptoCard

/-- THE SECOND FORM's CARD OF 'sextetlaw14.TrackPlays'. -/
def trackPlaysUptoCard : Claim7 := { stood := { row := trackPlaysUptoRow, standIns := [], harness := (true, "031ba59b6494dd5c705037b68f016ec774fb698f4b093b93201b4d9a3b2356e3"), looks := true }, kinds := [], alts := [], laidByText := true, laidKinds := [.sentinel, .sentinel, .sentinel, .sentinel, .sentinel, .sentinel, .sentinel, .sentinel, .sentinel, .sentinel, .sentinel, .sentinel, .sentinel, .sentinel, .sentinel, .sentinel, .sentinel], laidTests := true, laidLooks := .later }
def TrackPlaysUptoCardSaid : Prop := Claim7.holds Tryd.pinned (.plain (OpenSpec.upto trackPlaysSpec)) trackPlaysUptoCard

/-- THE SECOND FORM's CARD OF 'sextetlaw7.ConfSteps'. -/
def confStepsUptoCard : Claim7 := { stood := { row := confStepsUptoRow, standIns := [], harness := (true, "031ba59b6494dd5c705037b68f016ec774fb698f4b093b93201b4d9a3b2356e3"), looks := true }, kinds := [], alts := [], laidByText := true, laidKinds := [.sentinel, .sentinel, .sentinel, .sentinel, .sentinel, .sentinel], laidTests := true, laidLooks := .later }
def ConfStepsUptoCardSaid : Prop := Claim7.holds Tryd.pinned (.plain (OpenSpec.upto confStepsSpec)) confStepsUptoCard

/-- THE SECOND FORM's CARD OF 'sextetlaw14.TrackSafe'. -/
def trackSafeUptoCard : Claim7 := { stood := { row := trackSafeUptoRow, standIns := [], harness := (true, "031ba59b6494dd5c705037b68f016ec774fb698f4b093b93201b4d9a3b2356e3"), looks := true }, kinds := [], alts := [], laidByText := true, laidKinds := [.sentinel, .sentinel, .sentinel, .sentinel, .sentinel, .sentinel], laidTests := true, laidLooks := .later }
def TrackSafeUptoCardSaid : Prop := Claim7.holds Tryd.pinned (.plain (OpenSpec.upto trackSafeSpec)) trackSafeUptoCard

/-- THE SECOND FORM's CARD OF 'sextetlaw7.RegistryIncs'. -/
def registryIncsUptoCard : Claim7 := { stood := { row := registryIncsUptoRow, standIns := [], harness := (true, "031ba59b6494dd5c705037b68f016ec774fb698f4b093b93201b4d9a3b2356e3"), looks := true }, kinds := [], alts := [], laidByText := true, laidKinds := [.sentinel, .sentinel, .sentinel, .sentinel, .sentinel, .sentinel, .sentinel, .sentinel, .sentinel, .sentinel, .sentinel, .sentinel, .sentinel, .sentinel, .sentinel, .sentinel, .sentinel], laidTests := true, laidLooks := .later }
def RegistryIncsUptoCardSaid : Prop := Claim7.holds Tryd.pinned (.plain (OpenSpec.upto registryIncsSpec)) registryIncsUptoCard

/-- THE SECOND FORM's CARD OF 'sextetlaw14.TrackMembers'. -/
def trackMembersUptoCard : Claim7 := { stood := { row := trackMembersUptoRow, standIns := [], harness := (true, "031ba59b6494dd5c705037b68f016ec774fb698f4b093b93201b4d9a3b2356e3"), looks := true }, kinds := [], alts := [], laidByText := true, laidKinds := [.sentinel, .sentinel, .sentinel, .sentinel, .sentinel, .sentinel], laidTests := true, laidLooks := .later }
def TrackMembersUptoCardSaid : Prop := Claim7.holds Tryd.pinned (.plain (OpenSpec.upto trackMembersSpec)) trackMembersUptoCard

/-- THE SECOND FORM's CARD OF 'sextetlaw7.ConfMeets'. -/
def confMeetsUptoCard : Claim7 := { stood := { row := confMeetsUptoRow, standIns := [], harness := (true, "031ba59b6494dd5c705037b68f016ec774fb698f4b093b93201b4d9a3b2356e3"), looks := true }, kinds := [], alts := [], laidByText := true, laidKinds := [.sentinel, .sentinel, .sentinel, .sentinel, .sentinel, .sentinel], laidTests := true, laidLooks := .later }
def ConfMeetsUptoCardSaid : Prop := Claim7.holds Tryd.pinned (.plain (OpenSpec.upto confMeetsSpec)) confMeetsUptoCard

/-- THE SECOND FORM's CARD OF 'sextetlaw7.RegistryFences'. -/
def registryFencesUptoCard : Claim7 := { stood := { row := registryFencesUptoRow, standIns := [], harness := (true, "031ba59b6494dd5c705037b68f016ec774fb698f4b093b93201b4d9a3b2356e3"), looks := true }, kinds := [], alts := [], laidByText := true, laidKinds := [.sentinel, .sentinel, .sentinel, .sentinel, .sentinel, .sentinel, .sentinel, .sentinel, .sentinel, .sentinel, .sentinel, .sentinel, .sentinel, .sentinel, .sentinel, .sentinel, .sentinel], laidTests := true, laidLooks := .later }
def RegistryFencesUptoCardSaid : Prop := Claim7.holds Tryd.pinned (.plain (OpenSpec.upto registryFencesSpec)) registryFencesUptoCard

/-- THE SECOND FORM's CARD OF 'sextetlaw7.RegistryPlays'. -/
def registryPlaysUptoCard : Claim7 := { stood := { row := registryPlaysUptoRow, standIns := [], harness := (true, "031ba59b6494dd5c705037b68f016ec774fb698f4b093b93201b4d9a3b2356e3"), looks := true }, kinds := [], alts := [], laidByText := true, laidKinds := [.sentinel, .sentinel, .sentinel, .sentinel, .sentinel, .sentinel, .sentinel, .sentinel, .sentinel, .sentinel, .sentinel, .sentinel, .sentinel, .sentinel, .sentinel, .sentinel, .sentinel], laidTests := true, laidLooks := .later }
def RegistryPlaysUptoCardSaid : Prop := Claim7.holds Tryd.pinned (.plain (OpenSpec.upto registryPlaysSpec)) registryPlaysUptoCard
end Rows
end Go.Proofs.YtkojpimkngmckaaDoor
