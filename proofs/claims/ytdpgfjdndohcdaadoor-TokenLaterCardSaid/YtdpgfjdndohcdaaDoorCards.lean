/-
  DERIVED. GIVEN WITH THE SEED: THE CARDS: each row of YtdpgfjdndohcdaaDoorRows.lean that lists a variable, with what it lists TIED to the program's text (the seventh form; the later family's looks); each row that meets fmt, with fmt's text TOLD by the authors' own Lean function (tested against real Go, not proved from fmt's source: count such statements apart). THE CARD IS WHAT COUNTS. Prove the row's statement (the work); the ties are given (YtdpgfjdndohcdaaDoorTie.lean); close each card by the builder's one call (the guide's Derived/Test/ToyasCard.lean, 'card_holds'). Laid BY PROGRAM, IN A SANDBOX (cutbox-door.mjs). By AI agents, Wed Nov 11 2026. No macro, syntax, notation, axiom, sorry.
-/
import Derived.Test.YtdpgfjdndohcdaaDoorRows
import GoSem.ClaimSeven
namespace Go.Proofs.YtdpgfjdndohcdaaDoor
namespace Rows

/-- THE TIED CARD OF 'tidemarklaw4.TokenSpoilt'. -/
def tokenSpoiltCard : Claim7 := { stood := { row := tokenSpoiltRow, standIns := [], harness := (true, "8c5d8cedf6fc76691da56cf8f35adfe3a17bec4707db3badd6c7a3fa47fc8ec3"), looks := false }, kinds := [], alts := [], laidByText := true, laidKinds := [.data, .data], laidTests := true, laidLooks := .later }
def TokenSpoiltCardSaid : Prop := Claim7.holds Tryd.pinned (.plain (OpenSpec.ofChange tokenSpoiltSpec)) tokenSpoiltCard

/-- THE TIED CARD OF 'tidemarklaw4.TokenLater'. -/
def tokenLaterCard : Claim7 := { stood := { row := tokenLaterRow, standIns := [], harness := (true, "8c5d8cedf6fc76691da56cf8f35adfe3a17bec4707db3badd6c7a3fa47fc8ec3"), looks := false }, kinds := [], alts := [], laidByText := true, laidKinds := [.data, .data], laidTests := true, laidLooks := .later }
def TokenLaterCardSaid : Prop := Claim7.holds Tryd.pinned (.plain (OpenSpec.ofChange tokenLaterSpec)) tokenLaterCard

/-- THE TIED CARD OF 'tidemarklaw4.TokenJoins'. -/
def tokenJoinsCard : Claim7 := { stood := { row := tokenJoinsRow, standIns := [], harness := (true, "8c5d8cedf6fc76691da56cf8f35adfe3a17bec4707db3badd6c7a3fa47fc8ec3"), looks := false }, kinds := [], alts := [], laidByText := true, laidKinds := [.data, .data], laidTests := true, laidLooks := .later }
def TokenJoinsCardSaid : Prop := Claim7.holds Tryd.pinned (.plain (OpenSpec.ofChange tokenJoinsSpec)) tokenJoinsCard

/-- THE TIED CARD OF 'tidemarklaw4.TokenEncodes'. -/
def tokenEncodesCard : Claim7 := { stood := { row := tokenEncodesRow, standIns := [], harness := (true, "8c5d8cedf6fc76691da56cf8f35adfe3a17bec4707db3badd6c7a3fa47fc8ec3"), looks := false }, kinds := [], alts := [], laidByText := true, laidKinds := [.data, .data], laidTests := true, laidLooks := .later }
def TokenEncodesCardSaid : Prop := Claim7.holds Tryd.pinned (.plain (OpenSpec.ofChange tokenEncodesSpec)) tokenEncodesCard

/-- THE TIED CARD OF 'tidemarklaw4.TokenDecodes'. -/
def tokenDecodesCard : Claim7 := { stood := { row := tokenDecodesRow, standIns := [], harness := (true, "8c5d8cedf6fc76691da56cf8f35adfe3a17bec4707db3badd6c7a3fa47fc8ec3"), looks := false }, kinds := [], alts := [], laidByText := true, laidKinds := [.data, .data], laidTests := true, laidLooks := .later }
def TokenDecodesCardSaid : Prop := Claim7.holds Tryd.pinned (.plain (OpenSpec.ofChange tokenDecodesSpec)) tokenDecodesCard

/-- THE TIED CARD OF 'tidemarklaw4.TokenApart'. -/
def tokenApartCard : Claim7 := { stood := { row := tokenApartRow, standIns := [], harness := (true, "8c5d8cedf6fc76691da56cf8f35adfe3a17bec4707db3badd6c7a3fa47fc8ec3"), looks := false }, kinds := [], alts := [], laidByText := true, laidKinds := [.data, .data], laidTests := true, laidLooks := .later }
def TokenApartCardSaid : Prop := Claim7.holds Tryd.pinned (.plain (OpenSpec.ofChange tokenApartSpec)) tokenApartCard

/-- THE SECOND FORM's CARD OF 'tidemarklaw4.TokenSpoilt'. -/
def tokenSpoiltUptoCard : Claim7 := { stood := { row := tokenSpoiltUptoRow, standIns := [], harness := (true, "8c5d8cedf6fc76691da56cf8f35adfe3a17bec4707db3badd6c7a3fa47fc8ec3"), looks := false }, kinds := [], alts := [], laidByText := true, laidKinds := [.data, .data], laidTests := true, laidLooks := .later }
def TokenSpoiltUptoCardSaid : Prop := Claim7.holds Tryd.pinned (.plain (OpenSpec.upto tokenSpoiltSpec)) tokenSpoiltUptoCard

/-- THE SECOND FORM's CARD OF 'tidemarklaw4.TokenLater'. -/
def tokenLaterUptoCard : Claim7 := { stood := { row := tokenLaterUptoRow, standIns := [], harness := (true, "8c5d8cedf6fc76691da56cf8f35adfe3a17bec4707db3badd6c7a3fa47fc8ec3"), looks := false }, kinds := [], alts := [], laidByText := true, laidKinds := [.data, .data], laidTests := true, laidLooks := .later }
def TokenLaterUptoCardSaid : Prop := Claim7.holds Tryd.pinned (.plain (OpenSpec.upto tokenLaterSpec)) tokenLaterUptoCard

/-- THE SECOND FORM's CARD OF 'tidemarklaw4.TokenJoins'. -/
def tokenJoinsUptoCard : Claim7 := { stood := { row := tokenJoinsUptoRow, standIns := [], harness := (true, "8c5d8cedf6fc76691da56cf8f35adfe3a17bec4707db3badd6c7a3fa47fc8ec3"), looks := false }, kinds := [], alts := [], laidByText := true, laidKinds := [.data, .data], laidTests := true, laidLooks := .later }
def TokenJoinsUptoCardSaid : Prop := Claim7.holds Tryd.pinned (.plain (OpenSpec.upto tokenJoinsSpec)) tokenJoinsUptoCard

/-- THE SECOND FORM's CARD OF 'tidemarklaw4.TokenEncodes'. -/
def tokenEncodesUptoCard : Claim7 := { stood := { row := tokenEncodesUptoRow, standIns := [], harness := (true, "8c5d8cedf6fc76691da56cf8f35adfe3a17bec4707db3badd6c7a3fa47fc8ec3"), looks := false }, kinds := [], alts := [], laidByText := true, laidKinds := [.data, .data], laidTests := true, laidLooks := .later }
def TokenEncodesUptoCardSaid : Prop := Claim7.holds Tryd.pinned (.plain (OpenSpec.upto tokenEncodesSpec)) tokenEncodesUptoCard

/-- THE SECOND FORM's CARD OF 'tidemarklaw4.TokenDecodes'. -/
def tokenDecodesUptoCard : Claim7 := { stood := { row := tokenDecodesUptoRow, standIns := [], harness := (true, "8c5d8cedf6fc76691da56cf8f35adfe3a17bec4707db3badd6c7a3fa47fc8ec3"), looks := false }, kinds := [], alts := [], laidByText := true, laidKinds := [.data, .data], laidTests := true, laidLooks := .later }
def TokenDecodesUptoCardSaid : Prop := Claim7.holds Tryd.pinned (.plain (OpenSpec.upto tokenDecodesSpec)) tokenDecodesUptoCard

/-- THE SECOND FORM's CARD OF 'tidemarklaw4.TokenApart'. -/
def tokenApartUptoCard : Claim7 := { stood := { row := tokenApartUptoRow, standIns := [], harness := (true, "8c5d8cedf6fc76691da56cf8f35adfe3a17bec4707db3badd6c7a3fa47fc8ec3"), looks := false }, kinds := [], alts := [], laidByText := true, laidKinds := [.data, .data], laidTests := true, laidLooks := .later }
def TokenApartUptoCardSaid : Prop := Claim7.holds Tryd.pinned (.plain (OpenSpec.upto tokenApartSpec)) tokenApartUptoCard
end Rows
end Go.Proofs.YtdpgfjdndohcdaaDoor
