/-
  DERIVED. GIVEN WITH THE SEED: THE CARDS: each row of YtokphfhihhdfpaaDoorRows.lean that lists a variable, with what it lists TIED to the program's text (the seventh form; the later family's looks); each row that meets fmt, with fmt's text TOLD by the authors' own Lean function (tested against real Go, not proved from fmt's source: count such statements apart). THE CARD IS WHAT COUNTS. Prove the row's statement (the work); the ties are given (YtokphfhihhdfpaaDoorTie.lean); close each card by the builder's one call (the guide's Derived/Test/ToyasCard.lean, 'card_holds'). Laid BY PROGRAM, IN A SANDBOX (cutbox-door.mjs). By AI agents, Wed Nov 11 2026. No macro, syntax, notation, axiom, sorry.
-/
import Derived.Test.YtokphfhihhdfpaaDoorRows
import GoSem.ClaimSeven
namespace Go.Proofs.YtokphfhihhdfpaaDoor
namespace Rows

/-- THE TIED CARD OF 'peristylelaw1.OrderIsWhole'. -/
def orderIsWholeCard : Claim7 := { stood := { row := orderIsWholeRow, standIns := [], harness := (true, "9794ebd8c1af115aef04b03ff02f9ef259904e9c2204a93d51e7864b2e4f0765"), looks := true }, kinds := [], alts := [], laidByText := true, laidKinds := [.data, .data, .data, .sentinel, .sentinel], laidTests := true, laidLooks := .later }
def OrderIsWholeCardSaid : Prop := Claim7.holds Tryd.pinned (.plain (OpenSpec.ofChange orderIsWholeSpec)) orderIsWholeCard

/-- THE TIED CARD OF 'peristylelaw1.CastsComeBack'. -/
def castsComeBackCard : Claim7 := { stood := { row := castsComeBackRow, standIns := [], harness := (true, "9794ebd8c1af115aef04b03ff02f9ef259904e9c2204a93d51e7864b2e4f0765"), looks := true }, kinds := [], alts := [], laidByText := true, laidKinds := [.data, .data, .data, .sentinel, .sentinel], laidTests := true, laidLooks := .later }
def CastsComeBackCardSaid : Prop := Claim7.holds Tryd.pinned (.plain (OpenSpec.ofChange castsComeBackSpec)) castsComeBackCard

/-- THE TIED CARD OF 'peristylelaw1.LogicTurnsRound'. -/
def logicTurnsRoundCard : Claim7 := { stood := { row := logicTurnsRoundRow, standIns := [], harness := (true, "9794ebd8c1af115aef04b03ff02f9ef259904e9c2204a93d51e7864b2e4f0765"), looks := true }, kinds := [], alts := [], laidByText := true, laidKinds := [.data, .data, .data, .sentinel, .sentinel], laidTests := true, laidLooks := .later }
def LogicTurnsRoundCardSaid : Prop := Claim7.holds Tryd.pinned (.plain (OpenSpec.ofChange logicTurnsRoundSpec)) logicTurnsRoundCard

/-- THE TIED CARD OF 'peristylelaw1.ValuesMatchSpec'. -/
def valuesMatchSpecCard : Claim7 := { stood := { row := valuesMatchSpecRow, standIns := [], harness := (true, "9794ebd8c1af115aef04b03ff02f9ef259904e9c2204a93d51e7864b2e4f0765"), looks := true }, kinds := [], alts := [], laidByText := true, laidKinds := [.data, .data, .data, .sentinel, .sentinel], laidTests := true, laidLooks := .later }
def ValuesMatchSpecCardSaid : Prop := Claim7.holds Tryd.pinned (.plain (OpenSpec.ofChange valuesMatchSpecSpec)) valuesMatchSpecCard

/-- THE TIED CARD OF 'peristylelaw1.LikesOfParts'. -/
def likesOfPartsCard : Claim7 := { stood := { row := likesOfPartsRow, standIns := [], harness := (true, "9794ebd8c1af115aef04b03ff02f9ef259904e9c2204a93d51e7864b2e4f0765"), looks := true }, kinds := [], alts := [], laidByText := true, laidKinds := [.data, .data, .data, .sentinel, .sentinel], laidTests := true, laidLooks := .later }
def LikesOfPartsCardSaid : Prop := Claim7.holds Tryd.pinned (.plain (OpenSpec.ofChange likesOfPartsSpec)) likesOfPartsCard

/-- THE TIED CARD OF 'peristylelaw1.SumsMatchSpec'. -/
def sumsMatchSpecCard : Claim7 := { stood := { row := sumsMatchSpecRow, standIns := [], harness := (true, "9794ebd8c1af115aef04b03ff02f9ef259904e9c2204a93d51e7864b2e4f0765"), looks := true }, kinds := [], alts := [], laidByText := true, laidKinds := [.data, .data, .data, .sentinel, .sentinel], laidTests := true, laidLooks := .later }
def SumsMatchSpecCardSaid : Prop := Claim7.holds Tryd.pinned (.plain (OpenSpec.ofChange sumsMatchSpecSpec)) sumsMatchSpecCard

/-- THE TIED CARD OF 'peristylelaw1.SumsGoBack'. -/
def sumsGoBackCard : Claim7 := { stood := { row := sumsGoBackRow, standIns := [], harness := (true, "9794ebd8c1af115aef04b03ff02f9ef259904e9c2204a93d51e7864b2e4f0765"), looks := true }, kinds := [], alts := [], laidByText := true, laidKinds := [.data, .data, .data, .sentinel, .sentinel], laidTests := true, laidLooks := .later }
def SumsGoBackCardSaid : Prop := Claim7.holds Tryd.pinned (.plain (OpenSpec.ofChange sumsGoBackSpec)) sumsGoBackCard

/-- THE TIED CARD OF 'peristylelaw1.LogicMatchesSpec'. -/
def logicMatchesSpecCard : Claim7 := { stood := { row := logicMatchesSpecRow, standIns := [], harness := (true, "9794ebd8c1af115aef04b03ff02f9ef259904e9c2204a93d51e7864b2e4f0765"), looks := true }, kinds := [], alts := [], laidByText := true, laidKinds := [.data, .data, .data, .sentinel, .sentinel], laidTests := true, laidLooks := .later }
def LogicMatchesSpecCardSaid : Prop := Claim7.holds Tryd.pinned (.plain (OpenSpec.ofChange logicMatchesSpecSpec)) logicMatchesSpecCard

/-- THE TIED CARD OF 'peristylelaw1.CastsMatchSpec'. -/
def castsMatchSpecCard : Claim7 := { stood := { row := castsMatchSpecRow, standIns := [], harness := (true, "9794ebd8c1af115aef04b03ff02f9ef259904e9c2204a93d51e7864b2e4f0765"), looks := true }, kinds := [], alts := [], laidByText := true, laidKinds := [.data, .data, .data, .sentinel, .sentinel], laidTests := true, laidLooks := .later }
def CastsMatchSpecCardSaid : Prop := Claim7.holds Tryd.pinned (.plain (OpenSpec.ofChange castsMatchSpecSpec)) castsMatchSpecCard

/-- THE TIED CARD OF 'peristylelaw1.OrderMatchesSpec'. -/
def orderMatchesSpecCard : Claim7 := { stood := { row := orderMatchesSpecRow, standIns := [], harness := (true, "9794ebd8c1af115aef04b03ff02f9ef259904e9c2204a93d51e7864b2e4f0765"), looks := true }, kinds := [], alts := [], laidByText := true, laidKinds := [.data, .data, .data, .sentinel, .sentinel], laidTests := true, laidLooks := .later }
def OrderMatchesSpecCardSaid : Prop := Claim7.holds Tryd.pinned (.plain (OpenSpec.ofChange orderMatchesSpecSpec)) orderMatchesSpecCard

/-- THE TIED CARD OF 'peristylelaw1.DistinctHasEachOnce'. -/
def distinctHasEachOnceCard : Claim7 := { stood := { row := distinctHasEachOnceRow, standIns := [], harness := (true, "9794ebd8c1af115aef04b03ff02f9ef259904e9c2204a93d51e7864b2e4f0765"), looks := true }, kinds := [], alts := [], laidByText := true, laidKinds := [.data, .data, .data, .sentinel, .sentinel], laidTests := true, laidLooks := .later }
def DistinctHasEachOnceCardSaid : Prop := Claim7.holds Tryd.pinned (.plain (OpenSpec.ofChange distinctHasEachOnceSpec)) distinctHasEachOnceCard

/-- THE TIED CARD OF 'peristylelaw1.TextsComeBack'. -/
def textsComeBackCard : Claim7 := { stood := { row := textsComeBackRow, standIns := [], harness := (true, "9794ebd8c1af115aef04b03ff02f9ef259904e9c2204a93d51e7864b2e4f0765"), looks := true }, kinds := [], alts := [], laidByText := true, laidKinds := [.data, .data, .data, .data, .sentinel, .sentinel, .pinned], laidTests := true, laidLooks := .later }
def TextsComeBackCardSaid : Prop := Claim7.holds Tryd.pinned (.plain (OpenSpec.ofChange textsComeBackSpec)) textsComeBackCard

/-- THE TIED CARD OF 'peristylelaw1.SortedIsSorted'. -/
def sortedIsSortedCard : Claim7 := { stood := { row := sortedIsSortedRow, standIns := [], harness := (true, "9794ebd8c1af115aef04b03ff02f9ef259904e9c2204a93d51e7864b2e4f0765"), looks := true }, kinds := [], alts := [], laidByText := true, laidKinds := [.data, .data, .data, .sentinel, .sentinel], laidTests := true, laidLooks := .later }
def SortedIsSortedCardSaid : Prop := Claim7.holds Tryd.pinned (.plain (OpenSpec.ofChange sortedIsSortedSpec)) sortedIsSortedCard

/-- THE SECOND FORM's CARD OF 'peristylelaw1.OrderIsWhole'. -/
def orderIsWholeUptoCard : Claim7 := { stood := { row := orderIsWholeUptoRow, standIns := [], harness := (true, "9794ebd8c1af115aef04b03ff02f9ef259904e9c2204a93d51e7864b2e4f0765"), looks := true }, kinds := [], alts := [], laidByText := true, laidKinds := [.data, .data, .data, .sentinel, .sentinel], laidTests := true, laidLooks := .later }
def OrderIsWholeUptoCardSaid : Prop := Claim7.holds Tryd.pinned (.plain (OpenSpec.upto orderIsWholeSpec)) orderIsWholeUptoCard

/-- THE SECOND FORM's CARD OF 'peristylelaw1.CastsComeBack'. -/
def castsComeBackUptoCard : Claim7 := { stood := { row := castsComeBackUptoRow, standIns := [], harness := (true, "9794ebd8c1af115aef04b03ff02f9ef259904e9c2204a93d51e7864b2e4f0765"), looks := true }, kinds := [], alts := [], laidByText := true, laidKinds := [.data, .data, .data, .sentinel, .sentinel], laidTests := true, laidLooks := .later }
def CastsComeBackUptoCardSaid : Prop := Claim7.holds Tryd.pinned (.plain (OpenSpec.upto castsComeBackSpec)) castsComeBackUptoCard

/-- THE SECOND FORM's CARD OF 'peristylelaw1.LogicTurnsRound'. -/
def logicTurnsRoundUptoCard : Claim7 := { stood := { row := logicTurnsRoundUptoRow, standIns := [], harness := (true, "9794ebd8c1af115aef04b03ff02f9ef259904e9c2204a93d51e7864b2e4f0765"), looks := true }, kinds := [], alts := [], laidByText := true, laidKinds := [.data, .data, .data, .sentinel, .sentinel], laidTests := true, laidLooks := .later }
def LogicTurnsRoundUptoCardSaid : Prop := Claim7.holds Tryd.pinned (.plain (OpenSpec.upto logicTurnsRoundSpec)) logicTurnsRoundUptoCard

/-- THE SECOND FORM's CARD OF 'peristylelaw1.ValuesMatchSpec'. -/
def valuesMatchSpecUptoCard : Claim7 := { stood := { row := valuesMatchSpecUptoRow, standIns := [], harness := (true, "9794ebd8c1af115aef04b03ff02f9ef259904e9c2204a93d51e7864b2e4f0765"), looks := true }, kinds := [], alts := [], laidByText := true, laidKinds := [.data, .data, .data, .sentinel, .sentinel], laidTests := true, laidLooks := .later }
def ValuesMatchSpecUptoCardSaid : Prop := Claim7.holds Tryd.pinned (.plain (OpenSpec.upto valuesMatchSpecSpec)) valuesMatchSpecUptoCard

/-- THE SECOND FORM's CARD OF 'peristylelaw1.LikesOfParts'. -/
def likesOfPartsUptoCard : Claim7 := { stood := { row := likesOfPartsUptoRow, standIns := [], harness := (true, "9794ebd8c1af115aef04b03ff02f9ef259904e9c2204a93d51e7864b2e4f0765"), looks := true }, kinds := [], alts := [], laidByText := true, laidKinds := [.data, .data, .data, .sentinel, .sentinel], laidTests := true, laidLooks := .later }
def LikesOfPartsUptoCardSaid : Prop := Claim7.holds Tryd.pinned (.plain (OpenSpec.upto likesOfPartsSpec)) likesOfPartsUptoCard

/-- THE SECOND FORM's CARD OF 'peristylelaw1.SumsMatchSpec'. -/
def sumsMatchSpecUptoCard : Claim7 := { stood := { row := sumsMatchSpecUptoRow, standIns := [], harness := (true, "9794ebd8c1af115aef04b03ff02f9ef259904e9c2204a93d51e7864b2e4f0765"), looks := true }, kinds := [], alts := [], laidByText := true, laidKinds := [.data, .data, .data, .sentinel, .sentinel], laidTests := true, laidLooks := .later }
def SumsMatchSpecUptoCardSaid : Prop := Claim7.holds Tryd.pinned (.plain (OpenSpec.upto sumsMatchSpecSpec)) sumsMatchSpecUptoCard

/-- THE SECOND FORM's CARD OF 'peristylelaw1.SumsGoBack'. -/
def sumsGoBackUptoCard : Claim7 := { stood := { row := sumsGoBackUptoRow, standIns := [], harness := (true, "9794ebd8c1af115aef04b03ff02f9ef259904e9c2204a93d51e7864b2e4f0765"), looks := true }, kinds := [], alts := [], laidByText := true, laidKinds := [.data, .data, .data, .sentinel, .sentinel], laidTests := true, laidLooks := .later }
def SumsGoBackUptoCardSaid : Prop := Claim7.holds Tryd.pinned (.plain (OpenSpec.upto sumsGoBackSpec)) sumsGoBackUptoCard

/-- THE SECOND FORM's CARD OF 'peristylelaw1.LogicMatchesSpec'. -/
def logicMatchesSpecUptoCard : Claim7 := { stood := { row := logicMatchesSpecUptoRow, standIns := [], harness := (true, "9794ebd8c1af115aef04b03ff02f9ef259904e9c2204a93d51e7864b2e4f0765"), looks := true }, kinds := [], alts := [], laidByText := true, laidKinds := [.data, .data, .data, .sentinel, .sentinel], laidTests := true, laidLooks := .later }
def LogicMatchesSpecUptoCardSaid : Prop := Claim7.holds Tryd.pinned (.plain (OpenSpec.upto logicMatchesSpecSpec)) logicMatchesSpecUptoCard

/-- THE SECOND FORM's CARD OF 'peristylelaw1.CastsMatchSpec'. -/
def castsMatchSpecUptoCard : Claim7 := { stood := { row := castsMatchSpecUptoRow, standIns := [], harness := (true, "9794ebd8c1af115aef04b03ff02f9ef259904e9c2204a93d51e7864b2e4f0765"), looks := true }, kinds := [], alts := [], laidByText := true, laidKinds := [.data, .data, .data, .sentinel, .sentinel], laidTests := true, laidLooks := .later }
def CastsMatchSpecUptoCardSaid : Prop := Claim7.holds Tryd.pinned (.plain (OpenSpec.upto castsMatchSpecSpec)) castsMatchSpecUptoCard

/-- THE SECOND FORM's CARD OF 'peristylelaw1.OrderMatchesSpec'. -/
def orderMatchesSpecUptoCard : Claim7 := { stood := { row := orderMatchesSpecUptoRow, standIns := [], harness := (true, "9794ebd8c1af115aef04b03ff02f9ef259904e9c2204a93d51e7864b2e4f0765"), looks := true }, kinds := [], alts := [], laidByText := true, laidKinds := [.data, .data, .data, .sentinel, .sentinel], laidTests := true, laidLooks := .later }
def OrderMatchesSpecUptoCardSaid : Prop := Claim7.holds Tryd.pinned (.plain (OpenSpec.upto orderMatchesSpecSpec)) orderMatchesSpecUptoCard

/-- THE SECOND FORM's CARD OF 'peristylelaw1.DistinctHasEachOnce'. -/
def distinctHasEachOnceUptoCard : Claim7 := { stood := { row := distinctHasEachOnceUptoRow, standIns := [], harness := (true, "9794ebd8c1af115aef04b03ff02f9ef259904e9c2204a93d51e7864b2e4f0765"), looks := true }, kinds := [], alts := [], laidByText := true, laidKinds := [.data, .data, .data, .sentinel, .sentinel], laidTests := true, laidLooks := .later }
def DistinctHasEachOnceUptoCardSaid : Prop := Claim7.holds Tryd.pinned (.plain (OpenSpec.upto distinctHasEachOnceSpec)) distinctHasEachOnceUptoCard

/-- THE SECOND FORM's CARD OF 'peristylelaw1.TextsComeBack'. -/
def textsComeBackUptoCard : Claim7 := { stood := { row := textsComeBackUptoRow, standIns := [], harness := (true, "9794ebd8c1af115aef04b03ff02f9ef259904e9c2204a93d51e7864b2e4f0765"), looks := true }, kinds := [], alts := [], laidByText := true, laidKinds := [.data, .data, .data, .data, .sentinel, .sentinel, .pinned], laidTests := true, laidLooks := .later }
def TextsComeBackUptoCardSaid : Prop := Claim7.holds Tryd.pinned (.plain (OpenSpec.upto textsComeBackSpec)) textsComeBackUptoCard

/-- THE SECOND FORM's CARD OF 'peristylelaw1.SortedIsSorted'. -/
def sortedIsSortedUptoCard : Claim7 := { stood := { row := sortedIsSortedUptoRow, standIns := [], harness := (true, "9794ebd8c1af115aef04b03ff02f9ef259904e9c2204a93d51e7864b2e4f0765"), looks := true }, kinds := [], alts := [], laidByText := true, laidKinds := [.data, .data, .data, .sentinel, .sentinel], laidTests := true, laidLooks := .later }
def SortedIsSortedUptoCardSaid : Prop := Claim7.holds Tryd.pinned (.plain (OpenSpec.upto sortedIsSortedSpec)) sortedIsSortedUptoCard
end Rows
end Go.Proofs.YtokphfhihhdfpaaDoor
