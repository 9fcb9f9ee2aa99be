/-
  DERIVED. GIVEN WITH THE SEED: THE CARDS: each row of YthknbknmlnnhcaaGreatDoorRows.lean that lists a variable, with what it lists TIED to the program's text (the seventh form; the later family's looks); each row that meets fmt, with fmt's text TOLD by the authors' own Lean function (tested against real Go, not proved from fmt's source: count such statements apart). THE CARD IS WHAT COUNTS. Prove the row's statement (the work); the ties are given (YthknbknmlnnhcaaGreatDoorTie.lean); close each card by the builder's one call (the guide's Derived/Test/ToyasCard.lean, 'card_holds'). Laid BY PROGRAM, IN A SANDBOX (cutbox-door.mjs). By AI agents, Wed Nov 11 2026. No macro, syntax, notation, axiom, sorry.
-/
import Derived.Test.YthknbknmlnnhcaaGreatDoorRows
import GoSem.ClaimSeven
namespace Go.Proofs.YthknbknmlnnhcaaGreatDoor
namespace Rows

/-- THE TIED CARD OF 'bobbinlaw15.TokensShow'. -/
def tokensShowCard : Claim7 := { stood := { row := tokensShowRow, standIns := [], harness := (true, "afd5778906d89308f05799cdef98004788df57cd7f0f6f835fe96988a082566f"), looks := true }, kinds := [], alts := [], laidByText := true, laidKinds := [.data, .data, .data, .data, .pinned], laidTests := true, laidLooks := .later }
def TokensShowCardSaid : Prop := Claim7.holds Tryz.pinned (.plain (OpenSpec.ofChange tokensShowSpec)) tokensShowCard

/-- THE TIED CARD OF 'bobbinlaw4.DecimalReads'. -/
def decimalReadsCard : Claim7 := { stood := { row := decimalReadsRow, standIns := [], harness := (true, "afd5778906d89308f05799cdef98004788df57cd7f0f6f835fe96988a082566f"), looks := true }, kinds := [], alts := [], laidByText := true, laidKinds := [.data, .data, .data, .data, .sentinel, .sentinel, .pinned], laidTests := true, laidLooks := .later }
def DecimalReadsCardSaid : Prop := Claim7.holds Tryz.pinned (.plain (OpenSpec.ofChange decimalReadsSpec)) decimalReadsCard

/-- THE TIED CARD OF 'bobbinlaw4.DecimalDigits'. -/
def decimalDigitsCard : Claim7 := { stood := { row := decimalDigitsRow, standIns := [], harness := (true, "afd5778906d89308f05799cdef98004788df57cd7f0f6f835fe96988a082566f"), looks := true }, kinds := [], alts := [], laidByText := true, laidKinds := [.data, .data, .data, .data, .sentinel, .sentinel, .pinned], laidTests := true, laidLooks := .later }
def DecimalDigitsCardSaid : Prop := Claim7.holds Tryz.pinned (.plain (OpenSpec.ofChange decimalDigitsSpec)) decimalDigitsCard

/-- THE TIED CARD OF 'bobbinlaw4.DecimalLiterals'. -/
def decimalLiteralsCard : Claim7 := { stood := { row := decimalLiteralsRow, standIns := [], harness := (true, "afd5778906d89308f05799cdef98004788df57cd7f0f6f835fe96988a082566f"), looks := true }, kinds := [], alts := [], laidByText := true, laidKinds := [.data, .data, .data, .data, .sentinel, .sentinel, .pinned], laidTests := true, laidLooks := .later }
def DecimalLiteralsCardSaid : Prop := Claim7.holds Tryz.pinned (.plain (OpenSpec.ofChange decimalLiteralsSpec)) decimalLiteralsCard

/-- THE TIED CARD OF 'bobbinlaw4.DecimalTexts'. -/
def decimalTextsCard : Claim7 := { stood := { row := decimalTextsRow, standIns := [], harness := (true, "afd5778906d89308f05799cdef98004788df57cd7f0f6f835fe96988a082566f"), looks := true }, kinds := [], alts := [], laidByText := true, laidKinds := [.data, .data, .data, .data, .sentinel, .sentinel, .pinned], laidTests := true, laidLooks := .later }
def DecimalTextsCardSaid : Prop := Claim7.holds Tryz.pinned (.plain (OpenSpec.ofChange decimalTextsSpec)) decimalTextsCard

/-- THE SECOND FORM's CARD OF 'bobbinlaw15.TokensShow'. -/
def tokensShowUptoCard : Claim7 := { stood := { row := tokensShowUptoRow, standIns := [], harness := (true, "afd5778906d89308f05799cdef98004788df57cd7f0f6f835fe96988a082566f"), looks := true }, kinds := [], alts := [], laidByText := true, laidKinds := [.data, .data, .data, .data, .pinned], laidTests := true, laidLooks := .later }
def TokensShowUptoCardSaid : Prop := Claim7.holds Tryz.pinned (.plain (OpenSpec.upto tokensShowSpec)) tokensShowUptoCard

/-- THE SECOND FORM's CARD OF 'bobbinlaw4.DecimalReads'. -/
def decimalReadsUptoCard : Claim7 := { stood := { row := decimalReadsUptoRow, standIns := [], harness := (true, "afd5778906d89308f05799cdef98004788df57cd7f0f6f835fe96988a082566f"), looks := true }, kinds := [], alts := [], laidByText := true, laidKinds := [.data, .data, .data, .data, .sentinel, .sentinel, .pinned], laidTests := true, laidLooks := .later }
def DecimalReadsUptoCardSaid : Prop := Claim7.holds Tryz.pinned (.plain (OpenSpec.upto decimalReadsSpec)) decimalReadsUptoCard

/-- THE SECOND FORM's CARD OF 'bobbinlaw4.DecimalDigits'. -/
def decimalDigitsUptoCard : Claim7 := { stood := { row := decimalDigitsUptoRow, standIns := [], harness := (true, "afd5778906d89308f05799cdef98004788df57cd7f0f6f835fe96988a082566f"), looks := true }, kinds := [], alts := [], laidByText := true, laidKinds := [.data, .data, .data, .data, .sentinel, .sentinel, .pinned], laidTests := true, laidLooks := .later }
def DecimalDigitsUptoCardSaid : Prop := Claim7.holds Tryz.pinned (.plain (OpenSpec.upto decimalDigitsSpec)) decimalDigitsUptoCard

/-- THE SECOND FORM's CARD OF 'bobbinlaw4.DecimalLiterals'. -/
def decimalLiteralsUptoCard : Claim7 := { stood := { row := decimalLiteralsUptoRow, standIns := [], harness := (true, "afd5778906d89308f05799cdef98004788df57cd7f0f6f835fe96988a082566f"), looks := true }, kinds := [], alts := [], laidByText := true, laidKinds := [.data, .data, .data, .data, .sentinel, .sentinel, .pinned], laidTests := true, laidLooks := .later }
def DecimalLiteralsUptoCardSaid : Prop := Claim7.holds Tryz.pinned (.plain (OpenSpec.upto decimalLiteralsSpec)) decimalLiteralsUptoCard

/-- THE SECOND FORM's CARD OF 'bobbinlaw4.DecimalTexts'. -/
def decimalTextsUptoCard : Claim7 := { stood := { row := decimalTextsUptoRow, standIns := [], harness := (true, "afd5778906d89308f05799cdef98004788df57cd7f0f6f835fe96988a082566f"), looks := true }, kinds := [], alts := [], laidByText := true, laidKinds := [.data, .data, .data, .data, .sentinel, .sentinel, .pinned], laidTests := true, laidLooks := .later }
def DecimalTextsUptoCardSaid : Prop := Claim7.holds Tryz.pinned (.plain (OpenSpec.upto decimalTextsSpec)) decimalTextsUptoCard
end Rows
end Go.Proofs.YthknbknmlnnhcaaGreatDoor
