/-
  DERIVED. GIVEN WITH THE SEED: THE CARDS: each row of YtdjnneflpkllmaaDoorRows.lean that lists a variable, with what it lists TIED to the program's text (the seventh form; the later family's looks); each row that meets fmt, with fmt's text TOLD by the authors' own Lean function (tested against real Go, not proved from fmt's source: count such statements apart). THE CARD IS WHAT COUNTS. Prove the row's statement (the work); the ties are given (YtdjnneflpkllmaaDoorTie.lean); close each card by the builder's one call (the guide's Derived/Test/ToyasCard.lean, 'card_holds'). Laid BY PROGRAM, IN A SANDBOX (cutbox-door.mjs). By AI agents, Wed Nov 11 2026. No macro, syntax, notation, axiom, sorry.
-/
import Derived.Test.YtdjnneflpkllmaaDoorRows
import GoSem.ClaimSeven
namespace Go.Proofs.YtdjnneflpkllmaaDoor
namespace Rows

/-- THE TIED CARD OF 'merinolaw01.NumBest'. -/
def numBestCard : Claim7 := { stood := { row := numBestRow, standIns := [], harness := (true, "c4d784d3af0786ebba60338a2eb94c2ca72ce7bdba7b39204aca8207213a9cc5"), looks := false }, kinds := [], alts := [], laidByText := true, laidKinds := [.data, .data, .data], laidTests := true, laidLooks := .later }
def NumBestCardSaid : Prop := Claim7.holds Tryd.pinned (.plain (OpenSpec.ofChange numBestSpec)) numBestCard

/-- THE TIED CARD OF 'merinolaw01.NumNearest'. -/
def numNearestCard : Claim7 := { stood := { row := numNearestRow, standIns := [], harness := (true, "c4d784d3af0786ebba60338a2eb94c2ca72ce7bdba7b39204aca8207213a9cc5"), looks := false }, kinds := [], alts := [], laidByText := true, laidKinds := [.data, .data, .data], laidTests := true, laidLooks := .later }
def NumNearestCardSaid : Prop := Claim7.holds Tryd.pinned (.plain (OpenSpec.ofChange numNearestSpec)) numNearestCard

/-- THE TIED CARD OF 'merinolaw01.NumMakes'. -/
def numMakesCard : Claim7 := { stood := { row := numMakesRow, standIns := [], harness := (true, "c4d784d3af0786ebba60338a2eb94c2ca72ce7bdba7b39204aca8207213a9cc5"), looks := false }, kinds := [], alts := [], laidByText := true, laidKinds := [.data, .data, .data], laidTests := true, laidLooks := .later }
def NumMakesCardSaid : Prop := Claim7.holds Tryd.pinned (.plain (OpenSpec.ofChange numMakesSpec)) numMakesCard

/-- THE TIED CARD OF 'merinolaw01.NumBetween'. -/
def numBetweenCard : Claim7 := { stood := { row := numBetweenRow, standIns := [], harness := (true, "c4d784d3af0786ebba60338a2eb94c2ca72ce7bdba7b39204aca8207213a9cc5"), looks := false }, kinds := [], alts := [], laidByText := true, laidKinds := [.data, .data, .data], laidTests := true, laidLooks := .later }
def NumBetweenCardSaid : Prop := Claim7.holds Tryd.pinned (.plain (OpenSpec.ofChange numBetweenSpec)) numBetweenCard

/-- THE TIED CARD OF 'merinolaw01.NumSimplest'. -/
def numSimplestCard : Claim7 := { stood := { row := numSimplestRow, standIns := [], harness := (true, "c4d784d3af0786ebba60338a2eb94c2ca72ce7bdba7b39204aca8207213a9cc5"), looks := false }, kinds := [], alts := [], laidByText := true, laidKinds := [.data, .data, .data], laidTests := true, laidLooks := .later }
def NumSimplestCardSaid : Prop := Claim7.holds Tryd.pinned (.plain (OpenSpec.ofChange numSimplestSpec)) numSimplestCard

/-- THE TIED CARD OF 'merinolaw01.NumPaths'. -/
def numPathsCard : Claim7 := { stood := { row := numPathsRow, standIns := [], harness := (true, "c4d784d3af0786ebba60338a2eb94c2ca72ce7bdba7b39204aca8207213a9cc5"), looks := false }, kinds := [], alts := [], laidByText := true, laidKinds := [.data, .data, .data], laidTests := true, laidLooks := .later }
def NumPathsCardSaid : Prop := Claim7.holds Tryd.pinned (.plain (OpenSpec.ofChange numPathsSpec)) numPathsCard

/-- THE TIED CARD OF 'merinolaw01.NumModes'. -/
def numModesCard : Claim7 := { stood := { row := numModesRow, standIns := [], harness := (true, "c4d784d3af0786ebba60338a2eb94c2ca72ce7bdba7b39204aca8207213a9cc5"), looks := false }, kinds := [], alts := [], laidByText := true, laidKinds := [.data, .data, .data], laidTests := true, laidLooks := .later }
def NumModesCardSaid : Prop := Claim7.holds Tryd.pinned (.plain (OpenSpec.ofChange numModesSpec)) numModesCard

/-- THE TIED CARD OF 'merinolaw01.NumFair'. -/
def numFairCard : Claim7 := { stood := { row := numFairRow, standIns := [], harness := (true, "c4d784d3af0786ebba60338a2eb94c2ca72ce7bdba7b39204aca8207213a9cc5"), looks := false }, kinds := [], alts := [], laidByText := true, laidKinds := [.data, .data, .data], laidTests := true, laidLooks := .later }
def NumFairCardSaid : Prop := Claim7.holds Tryd.pinned (.plain (OpenSpec.ofChange numFairSpec)) numFairCard

/-- THE TIED CARD OF 'merinolaw01.NumDivides'. -/
def numDividesCard : Claim7 := { stood := { row := numDividesRow, standIns := [], harness := (true, "c4d784d3af0786ebba60338a2eb94c2ca72ce7bdba7b39204aca8207213a9cc5"), looks := false }, kinds := [], alts := [], laidByText := true, laidKinds := [.data, .data, .data], laidTests := true, laidLooks := .later }
def NumDividesCardSaid : Prop := Claim7.holds Tryd.pinned (.plain (OpenSpec.ofChange numDividesSpec)) numDividesCard

/-- THE TIED CARD OF 'merinolaw01.NumHouse'. -/
def numHouseCard : Claim7 := { stood := { row := numHouseRow, standIns := [], harness := (true, "c4d784d3af0786ebba60338a2eb94c2ca72ce7bdba7b39204aca8207213a9cc5"), looks := false }, kinds := [], alts := [], laidByText := true, laidKinds := [.data, .data, .data], laidTests := true, laidLooks := .later }
def NumHouseCardSaid : Prop := Claim7.holds Tryd.pinned (.plain (OpenSpec.ofChange numHouseSpec)) numHouseCard

/-- THE TIED CARD OF 'merinolaw01.NumScaled'. -/
def numScaledCard : Claim7 := { stood := { row := numScaledRow, standIns := [], harness := (true, "c4d784d3af0786ebba60338a2eb94c2ca72ce7bdba7b39204aca8207213a9cc5"), looks := false }, kinds := [], alts := [], laidByText := true, laidKinds := [.data, .data, .data], laidTests := true, laidLooks := .later }
def NumScaledCardSaid : Prop := Claim7.holds Tryd.pinned (.plain (OpenSpec.ofChange numScaledSpec)) numScaledCard

/-- THE TIED CARD OF 'merinolaw01.NumField'. -/
def numFieldCard : Claim7 := { stood := { row := numFieldRow, standIns := [], harness := (true, "c4d784d3af0786ebba60338a2eb94c2ca72ce7bdba7b39204aca8207213a9cc5"), looks := false }, kinds := [], alts := [], laidByText := true, laidKinds := [.data, .data, .data], laidTests := true, laidLooks := .later }
def NumFieldCardSaid : Prop := Claim7.holds Tryd.pinned (.plain (OpenSpec.ofChange numFieldSpec)) numFieldCard

/-- THE TIED CARD OF 'merinolaw01.NumMeans'. -/
def numMeansCard : Claim7 := { stood := { row := numMeansRow, standIns := [], harness := (true, "c4d784d3af0786ebba60338a2eb94c2ca72ce7bdba7b39204aca8207213a9cc5"), looks := false }, kinds := [], alts := [], laidByText := true, laidKinds := [.data, .data, .data], laidTests := true, laidLooks := .later }
def NumMeansCardSaid : Prop := Claim7.holds Tryd.pinned (.plain (OpenSpec.ofChange numMeansSpec)) numMeansCard

/-- THE TIED CARD OF 'merinolaw01.NumRounds'. -/
def numRoundsCard : Claim7 := { stood := { row := numRoundsRow, standIns := [], harness := (true, "c4d784d3af0786ebba60338a2eb94c2ca72ce7bdba7b39204aca8207213a9cc5"), looks := false }, kinds := [], alts := [], laidByText := true, laidKinds := [.data, .data, .data], laidTests := true, laidLooks := .later }
def NumRoundsCardSaid : Prop := Claim7.holds Tryd.pinned (.plain (OpenSpec.ofChange numRoundsSpec)) numRoundsCard

/-- THE TIED CARD OF 'merinolaw01.NumArith'. -/
def numArithCard : Claim7 := { stood := { row := numArithRow, standIns := [], harness := (true, "c4d784d3af0786ebba60338a2eb94c2ca72ce7bdba7b39204aca8207213a9cc5"), looks := false }, kinds := [], alts := [], laidByText := true, laidKinds := [.data, .data, .data], laidTests := true, laidLooks := .later }
def NumArithCardSaid : Prop := Claim7.holds Tryd.pinned (.plain (OpenSpec.ofChange numArithSpec)) numArithCard

/-- THE TIED CARD OF 'merinolaw01.NumWhole'. -/
def numWholeCard : Claim7 := { stood := { row := numWholeRow, standIns := [], harness := (true, "c4d784d3af0786ebba60338a2eb94c2ca72ce7bdba7b39204aca8207213a9cc5"), looks := false }, kinds := [], alts := [], laidByText := true, laidKinds := [.data, .data, .data], laidTests := true, laidLooks := .later }
def NumWholeCardSaid : Prop := Claim7.holds Tryd.pinned (.plain (OpenSpec.ofChange numWholeSpec)) numWholeCard

/-- THE SECOND FORM's CARD OF 'merinolaw01.NumBest'. -/
def numBestUptoCard : Claim7 := { stood := { row := numBestUptoRow, standIns := [], harness := (true, "c4d784d3af0786ebba60338a2eb94c2ca72ce7bdba7b39204aca8207213a9cc5"), looks := false }, kinds := [], alts := [], laidByText := true, laidKinds := [.data, .data, .data], laidTests := true, laidLooks := .later }
def NumBestUptoCardSaid : Prop := Claim7.holds Tryd.pinned (.plain (OpenSpec.upto numBestSpec)) numBestUptoCard

/-- THE SECOND FORM's CARD OF 'merinolaw01.NumNearest'. -/
def numNearestUptoCard : Claim7 := { stood := { row := numNearestUptoRow, standIns := [], harness := (true, "c4d784d3af0786ebba60338a2eb94c2ca72ce7bdba7b39204aca8207213a9cc5"), looks := false }, kinds := [], alts := [], laidByText := true, laidKinds := [.data, .data, .data], laidTests := true, laidLooks := .later }
def NumNearestUptoCardSaid : Prop := Claim7.holds Tryd.pinned (.plain (OpenSpec.upto numNearestSpec)) numNearestUptoCard

/-- THE SECOND FORM's CARD OF 'merinolaw01.NumMakes'. -/
def numMakesUptoCard : Claim7 := { stood := { row := numMakesUptoRow, standIns := [], harness := (true, "c4d784d3af0786ebba60338a2eb94c2ca72ce7bdba7b39204aca8207213a9cc5"), looks := false }, kinds := [], alts := [], laidByText := true, laidKinds := [.data, .data, .data], laidTests := true, laidLooks := .later }
def NumMakesUptoCardSaid : Prop := Claim7.holds Tryd.pinned (.plain (OpenSpec.upto numMakesSpec)) numMakesUptoCard

/-- THE SECOND FORM's CARD OF 'merinolaw01.NumBetween'. -/
def numBetweenUptoCard : Claim7 := { stood := { row := numBetweenUptoRow, standIns := [], harness := (true, "c4d784d3af0786ebba60338a2eb94c2ca72ce7bdba7b39204aca8207213a9cc5"), looks := false }, kinds := [], alts := [], laidByText := true, laidKinds := [.data, .data, .data], laidTests := true, laidLooks := .later }
def NumBetweenUptoCardSaid : Prop := Claim7.holds Tryd.pinned (.plain (OpenSpec.upto numBetweenSpec)) numBetweenUptoCard

/-- THE SECOND FORM's CARD OF 'merinolaw01.NumSimplest'. -/
def numSimplestUptoCard : Claim7 := { stood := { row := numSimplestUptoRow, standIns := [], harness := (true, "c4d784d3af0786ebba60338a2eb94c2ca72ce7bdba7b39204aca8207213a9cc5"), looks := false }, kinds := [], alts := [], laidByText := true, laidKinds := [.data, .data, .data], laidTests := true, laidLooks := .later }
def NumSimplestUptoCardSaid : Prop := Claim7.holds Tryd.pinned (.plain (OpenSpec.upto numSimplestSpec)) numSimplestUptoCard

/-- THE SECOND FORM's CARD OF 'merinolaw01.NumPaths'. -/
def numPathsUptoCard : Claim7 := { stood := { row := numPathsUptoRow, standIns := [], harness := (true, "c4d784d3af0786ebba60338a2eb94c2ca72ce7bdba7b39204aca8207213a9cc5"), looks := false }, kinds := [], alts := [], laidByText := true, laidKinds := [.data, .data, .data], laidTests := true, laidLooks := .later }
def NumPathsUptoCardSaid : Prop := Claim7.holds Tryd.pinned (.plain (OpenSpec.upto numPathsSpec)) numPathsUptoCard

/-- THE SECOND FORM's CARD OF 'merinolaw01.NumModes'. -/
def numModesUptoCard : Claim7 := { stood := { row := numModesUptoRow, standIns := [], harness := (true, "c4d784d3af0786ebba60338a2eb94c2ca72ce7bdba7b39204aca8207213a9cc5"), looks := false }, kinds := [], alts := [], laidByText := true, laidKinds := [.data, .data, .data], laidTests := true, laidLooks := .later }
def NumModesUptoCardSaid : Prop := Claim7.holds Tryd.pinned (.plain (OpenSpec.upto numModesSpec)) numModesUptoCard

/-- THE SECOND FORM's CARD OF 'merinolaw01.NumFair'. -/
def numFairUptoCard : Claim7 := { stood := { row := numFairUptoRow, standIns := [], harness := (true, "c4d784d3af0786ebba60338a2eb94c2ca72ce7bdba7b39204aca8207213a9cc5"), looks := false }, kinds := [], alts := [], laidByText := true, laidKinds := [.data, .data, .data], laidTests := true, laidLooks := .later }
def NumFairUptoCardSaid : Prop := Claim7.holds Tryd.pinned (.plain (OpenSpec.upto numFairSpec)) numFairUptoCard

/-- THE SECOND FORM's CARD OF 'merinolaw01.NumDivides'. -/
def numDividesUptoCard : Claim7 := { stood := { row := numDividesUptoRow, standIns := [], harness := (true, "c4d784d3af0786ebba60338a2eb94c2ca72ce7bdba7b39204aca8207213a9cc5"), looks := false }, kinds := [], alts := [], laidByText := true, laidKinds := [.data, .data, .data], laidTests := true, laidLooks := .later }
def NumDividesUptoCardSaid : Prop := Claim7.holds Tryd.pinned (.plain (OpenSpec.upto numDividesSpec)) numDividesUptoCard

/-- THE SECOND FORM's CARD OF 'merinolaw01.NumHouse'. -/
def numHouseUptoCard : Claim7 := { stood := { row := numHouseUptoRow, standIns := [], harness := (true, "c4d784d3af0786ebba60338a2eb94c2ca72ce7bdba7b39204aca8207213a9cc5"), looks := false }, kinds := [], alts := [], laidByText := true, laidKinds := [.data, .data, .data], laidTests := true, laidLooks := .later }
def NumHouseUptoCardSaid : Prop := Claim7.holds Tryd.pinned (.plain (OpenSpec.upto numHouseSpec)) numHouseUptoCard

/-- THE SECOND FORM's CARD OF 'merinolaw01.NumScaled'. -/
def numScaledUptoCard : Claim7 := { stood := { row := numScaledUptoRow, standIns := [], harness := (true, "c4d784d3af0786ebba60338a2eb94c2ca72ce7bdba7b39204aca8207213a9cc5"), looks := false }, kinds := [], alts := [], laidByText := true, laidKinds := [.data, .data, .data], laidTests := true, laidLooks := .later }
def NumScaledUptoCardSaid : Prop := Claim7.holds Tryd.pinned (.plain (OpenSpec.upto numScaledSpec)) numScaledUptoCard

/-- THE SECOND FORM's CARD OF 'merinolaw01.NumField'. -/
def numFieldUptoCard : Claim7 := { stood := { row := numFieldUptoRow, standIns := [], harness := (true, "c4d784d3af0786ebba60338a2eb94c2ca72ce7bdba7b39204aca8207213a9cc5"), looks := false }, kinds := [], alts := [], laidByText := true, laidKinds := [.data, .data, .data], laidTests := true, laidLooks := .later }
def NumFieldUptoCardSaid : Prop := Claim7.holds Tryd.pinned (.plain (OpenSpec.upto numFieldSpec)) numFieldUptoCard

/-- THE SECOND FORM's CARD OF 'merinolaw01.NumMeans'. -/
def numMeansUptoCard : Claim7 := { stood := { row := numMeansUptoRow, standIns := [], harness := (true, "c4d784d3af0786ebba60338a2eb94c2ca72ce7bdba7b39204aca8207213a9cc5"), looks := false }, kinds := [], alts := [], laidByText := true, laidKinds := [.data, .data, .data], laidTests := true, laidLooks := .later }
def NumMeansUptoCardSaid : Prop := Claim7.holds Tryd.pinned (.plain (OpenSpec.upto numMeansSpec)) numMeansUptoCard

/-- THE SECOND FORM's CARD OF 'merinolaw01.NumRounds'. -/
def numRoundsUptoCard : Claim7 := { stood := { row := numRoundsUptoRow, standIns := [], harness := (true, "c4d784d3af0786ebba60338a2eb94c2ca72ce7bdba7b39204aca8207213a9cc5"), looks := false }, kinds := [], alts := [], laidByText := true, laidKinds := [.data, .data, .data], laidTests := true, laidLooks := .later }
def NumRoundsUptoCardSaid : Prop := Claim7.holds Tryd.pinned (.plain (OpenSpec.upto numRoundsSpec)) numRoundsUptoCard

/-- THE SECOND FORM's CARD OF 'merinolaw01.NumArith'. -/
def numArithUptoCard : Claim7 := { stood := { row := numArithUptoRow, standIns := [], harness := (true, "c4d784d3af0786ebba60338a2eb94c2ca72ce7bdba7b39204aca8207213a9cc5"), looks := false }, kinds := [], alts := [], laidByText := true, laidKinds := [.data, .data, .data], laidTests := true, laidLooks := .later }
def NumArithUptoCardSaid : Prop := Claim7.holds Tryd.pinned (.plain (OpenSpec.upto numArithSpec)) numArithUptoCard

/-- THE SECOND FORM's CARD OF 'merinolaw01.NumWhole'. -/
def numWholeUptoCard : Claim7 := { stood := { row := numWholeUptoRow, standIns := [], harness := (true, "c4d784d3af0786ebba60338a2eb94c2ca72ce7bdba7b39204aca8207213a9cc5"), looks := false }, kinds := [], alts := [], laidByText := true, laidKinds := [.data, .data, .data], laidTests := true, laidLooks := .later }
def NumWholeUptoCardSaid : Prop := Claim7.holds Tryd.pinned (.plain (OpenSpec.upto numWholeSpec)) numWholeUptoCard
end Rows
end Go.Proofs.YtdjnneflpkllmaaDoor
