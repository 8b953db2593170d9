/-
  DERIVED. GIVEN WITH THE SEED: THE CARDS: each row of YtmokgpepeddopaaGreatDoorRows.lean that lists a variable, with what it lists TIED to the program's text (the seventh form; the later family's looks); each row that meets fmt, with fmt's text TOLD by the authors' own Lean function (tested against real Go, not proved from fmt's source: count such statements apart). THE CARD IS WHAT COUNTS. Prove the row's statement (the work); the ties are given (YtmokgpepeddopaaGreatDoorTie.lean); close each card by the builder's one call (the guide's Derived/Test/ToyasCard.lean, 'card_holds'). Laid BY PROGRAM, IN A SANDBOX (cutbox-door.mjs). By AI agents, Wed Nov 11 2026. No macro, syntax, notation, axiom, sorry.
-/
import Derived.Test.YtmokgpepeddopaaGreatDoorRows
import GoSem.ClaimSeven
namespace Go.Proofs.YtmokgpepeddopaaGreatDoor
namespace Rows

/-- THE TIED CARD OF 'weirgatelaw06.AddressReadsAsSpecified'. -/
def addressReadsAsSpecifiedCard : Claim7 := { stood := { row := addressReadsAsSpecifiedRow, standIns := [], harness := (true, "614b14d664efecd589998538d1229b63d50a5e956e488ef23868573df4628166"), looks := false }, kinds := [], alts := [], laidByText := true, laidKinds := [.data, .pinned], laidTests := true, laidLooks := .later }
def AddressReadsAsSpecifiedCardSaid : Prop := Claim7.holds Tryz.pinned (.plain (OpenSpec.ofChange addressReadsAsSpecifiedSpec)) addressReadsAsSpecifiedCard

/-- THE TIED CARD OF 'weirgatelaw06.AddressTagsMatchSpec'. -/
def addressTagsMatchSpecCard : Claim7 := { stood := { row := addressTagsMatchSpecRow, standIns := [], harness := (true, "614b14d664efecd589998538d1229b63d50a5e956e488ef23868573df4628166"), looks := false }, kinds := [], alts := [], laidByText := true, laidKinds := [.data, .pinned], laidTests := true, laidLooks := .later }
def AddressTagsMatchSpecCardSaid : Prop := Claim7.holds Tryz.pinned (.plain (OpenSpec.ofChange addressTagsMatchSpecSpec)) addressTagsMatchSpecCard

/-- THE TIED CARD OF 'weirgatelaw06.AddressTextsReturn'. -/
def addressTextsReturnCard : Claim7 := { stood := { row := addressTextsReturnRow, standIns := [], harness := (true, "614b14d664efecd589998538d1229b63d50a5e956e488ef23868573df4628166"), looks := false }, kinds := [], alts := [], laidByText := true, laidKinds := [.data, .pinned], laidTests := true, laidLooks := .later }
def AddressTextsReturnCardSaid : Prop := Claim7.holds Tryz.pinned (.plain (OpenSpec.ofChange addressTextsReturnSpec)) addressTextsReturnCard

/-- THE TIED CARD OF 'weirgatelaw06.AddressPrefixesNest'. -/
def addressPrefixesNestCard : Claim7 := { stood := { row := addressPrefixesNestRow, standIns := [], harness := (true, "614b14d664efecd589998538d1229b63d50a5e956e488ef23868573df4628166"), looks := false }, kinds := [], alts := [], laidByText := true, laidKinds := [.data, .pinned], laidTests := true, laidLooks := .later }
def AddressPrefixesNestCardSaid : Prop := Claim7.holds Tryz.pinned (.plain (OpenSpec.ofChange addressPrefixesNestSpec)) addressPrefixesNestCard

/-- THE TIED CARD OF 'weirgatelaw06.AddressCoversExactly'. -/
def addressCoversExactlyCard : Claim7 := { stood := { row := addressCoversExactlyRow, standIns := [], harness := (true, "614b14d664efecd589998538d1229b63d50a5e956e488ef23868573df4628166"), looks := false }, kinds := [], alts := [], laidByText := true, laidKinds := [.data, .pinned], laidTests := true, laidLooks := .later }
def AddressCoversExactlyCardSaid : Prop := Claim7.holds Tryz.pinned (.plain (OpenSpec.ofChange addressCoversExactlySpec)) addressCoversExactlyCard

/-- THE TIED CARD OF 'weirgatelaw06.AddressMeetsExactly'. -/
def addressMeetsExactlyCard : Claim7 := { stood := { row := addressMeetsExactlyRow, standIns := [], harness := (true, "614b14d664efecd589998538d1229b63d50a5e956e488ef23868573df4628166"), looks := false }, kinds := [], alts := [], laidByText := true, laidKinds := [.data, .pinned], laidTests := true, laidLooks := .later }
def AddressMeetsExactlyCardSaid : Prop := Claim7.holds Tryz.pinned (.plain (OpenSpec.ofChange addressMeetsExactlySpec)) addressMeetsExactlyCard

/-- THE TIED CARD OF 'weirgatelaw06.AddressMatchesAsSpecified'. -/
def addressMatchesAsSpecifiedCard : Claim7 := { stood := { row := addressMatchesAsSpecifiedRow, standIns := [], harness := (true, "614b14d664efecd589998538d1229b63d50a5e956e488ef23868573df4628166"), looks := false }, kinds := [], alts := [], laidByText := true, laidKinds := [.data, .pinned], laidTests := true, laidLooks := .later }
def AddressMatchesAsSpecifiedCardSaid : Prop := Claim7.holds Tryz.pinned (.plain (OpenSpec.ofChange addressMatchesAsSpecifiedSpec)) addressMatchesAsSpecifiedCard

/-- THE SECOND FORM's CARD OF 'weirgatelaw06.AddressReadsAsSpecified'. -/
def addressReadsAsSpecifiedUptoCard : Claim7 := { stood := { row := addressReadsAsSpecifiedUptoRow, standIns := [], harness := (true, "614b14d664efecd589998538d1229b63d50a5e956e488ef23868573df4628166"), looks := false }, kinds := [], alts := [], laidByText := true, laidKinds := [.data, .pinned], laidTests := true, laidLooks := .later }
def AddressReadsAsSpecifiedUptoCardSaid : Prop := Claim7.holds Tryz.pinned (.plain (OpenSpec.upto addressReadsAsSpecifiedSpec)) addressReadsAsSpecifiedUptoCard

/-- THE SECOND FORM's CARD OF 'weirgatelaw06.AddressTagsMatchSpec'. -/
def addressTagsMatchSpecUptoCard : Claim7 := { stood := { row := addressTagsMatchSpecUptoRow, standIns := [], harness := (true, "614b14d664efecd589998538d1229b63d50a5e956e488ef23868573df4628166"), looks := false }, kinds := [], alts := [], laidByText := true, laidKinds := [.data, .pinned], laidTests := true, laidLooks := .later }
def AddressTagsMatchSpecUptoCardSaid : Prop := Claim7.holds Tryz.pinned (.plain (OpenSpec.upto addressTagsMatchSpecSpec)) addressTagsMatchSpecUptoCard

/-- THE SECOND FORM's CARD OF 'weirgatelaw06.AddressTextsReturn'. -/
def addressTextsReturnUptoCard : Claim7 := { stood := { row := addressTextsReturnUptoRow, standIns := [], harness := (true, "614b14d664efecd589998538d1229b63d50a5e956e488ef23868573df4628166"), looks := false }, kinds := [], alts := [], laidByText := true, laidKinds := [.data, .pinned], laidTests := true, laidLooks := .later }
def AddressTextsReturnUptoCardSaid : Prop := Claim7.holds Tryz.pinned (.plain (OpenSpec.upto addressTextsReturnSpec)) addressTextsReturnUptoCard

/-- THE SECOND FORM's CARD OF 'weirgatelaw06.AddressPrefixesNest'. -/
def addressPrefixesNestUptoCard : Claim7 := { stood := { row := addressPrefixesNestUptoRow, standIns := [], harness := (true, "614b14d664efecd589998538d1229b63d50a5e956e488ef23868573df4628166"), looks := false }, kinds := [], alts := [], laidByText := true, laidKinds := [.data, .pinned], laidTests := true, laidLooks := .later }
def AddressPrefixesNestUptoCardSaid : Prop := Claim7.holds Tryz.pinned (.plain (OpenSpec.upto addressPrefixesNestSpec)) addressPrefixesNestUptoCard

/-- THE SECOND FORM's CARD OF 'weirgatelaw06.AddressCoversExactly'. -/
def addressCoversExactlyUptoCard : Claim7 := { stood := { row := addressCoversExactlyUptoRow, standIns := [], harness := (true, "614b14d664efecd589998538d1229b63d50a5e956e488ef23868573df4628166"), looks := false }, kinds := [], alts := [], laidByText := true, laidKinds := [.data, .pinned], laidTests := true, laidLooks := .later }
def AddressCoversExactlyUptoCardSaid : Prop := Claim7.holds Tryz.pinned (.plain (OpenSpec.upto addressCoversExactlySpec)) addressCoversExactlyUptoCard

/-- THE SECOND FORM's CARD OF 'weirgatelaw06.AddressMeetsExactly'. -/
def addressMeetsExactlyUptoCard : Claim7 := { stood := { row := addressMeetsExactlyUptoRow, standIns := [], harness := (true, "614b14d664efecd589998538d1229b63d50a5e956e488ef23868573df4628166"), looks := false }, kinds := [], alts := [], laidByText := true, laidKinds := [.data, .pinned], laidTests := true, laidLooks := .later }
def AddressMeetsExactlyUptoCardSaid : Prop := Claim7.holds Tryz.pinned (.plain (OpenSpec.upto addressMeetsExactlySpec)) addressMeetsExactlyUptoCard

/-- THE SECOND FORM's CARD OF 'weirgatelaw06.AddressMatchesAsSpecified'. -/
def addressMatchesAsSpecifiedUptoCard : Claim7 := { stood := { row := addressMatchesAsSpecifiedUptoRow, standIns := [], harness := (true, "614b14d664efecd589998538d1229b63d50a5e956e488ef23868573df4628166"), looks := false }, kinds := [], alts := [], laidByText := true, laidKinds := [.data, .pinned], laidTests := true, laidLooks := .later }
def AddressMatchesAsSpecifiedUptoCardSaid : Prop := Claim7.holds Tryz.pinned (.plain (OpenSpec.upto addressMatchesAsSpecifiedSpec)) addressMatchesAsSpecifiedUptoCard
end Rows
end Go.Proofs.YtmokgpepeddopaaGreatDoor
