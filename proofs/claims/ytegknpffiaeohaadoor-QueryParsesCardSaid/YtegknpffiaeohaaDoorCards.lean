/-
  DERIVED. GIVEN WITH THE SEED: THE CARDS: each row of YtegknpffiaeohaaDoorRows.lean that lists a variable, with what it lists TIED to the program's text (the seventh form; the later family's looks); each row that meets fmt, with fmt's text TOLD by the authors' own Lean function (tested against real Go, not proved from fmt's source: count such statements apart). THE CARD IS WHAT COUNTS. Prove the row's statement (the work); the ties are given (YtegknpffiaeohaaDoorTie.lean); close each card by the builder's one call (the guide's Derived/Test/ToyasCard.lean, 'card_holds'). Laid BY PROGRAM, IN A SANDBOX (cutbox-door.mjs). By AI agents, Wed Nov 11 2026. No macro, syntax, notation, axiom, sorry.
-/
import Derived.Test.YtegknpffiaeohaaDoorRows
import GoSem.ClaimSeven
namespace Go.Proofs.YtegknpffiaeohaaDoor
namespace Rows

/-- THE TIED CARD OF 'hindsightlaw.QueryTells'. -/
def queryTellsCard : Claim7 := { stood := { row := queryTellsRow, standIns := [], harness := (true, "4df121ed19f6036deee738927e9417c3a25506c4baa47ef25816039bfe6d5059"), looks := true }, kinds := [], alts := [], laidByText := true, laidKinds := [.data, .data, .data, .sentinel, .sentinel], laidTests := true, laidLooks := .later }
def QueryTellsCardSaid : Prop := Claim7.holds Tryd.pinned (.plain (OpenSpec.ofChange queryTellsSpec)) queryTellsCard

/-- THE TIED CARD OF 'hindsightlaw.QueryParses'. -/
def queryParsesCard : Claim7 := { stood := { row := queryParsesRow, standIns := [], harness := (true, "4df121ed19f6036deee738927e9417c3a25506c4baa47ef25816039bfe6d5059"), looks := true }, kinds := [], alts := [], laidByText := true, laidKinds := [.data, .data, .data, .sentinel, .sentinel], laidTests := true, laidLooks := .later }
def QueryParsesCardSaid : Prop := Claim7.holds Tryd.pinned (.plain (OpenSpec.ofChange queryParsesSpec)) queryParsesCard

/-- THE TIED CARD OF 'hindsightlaw.QueryBack'. -/
def queryBackCard : Claim7 := { stood := { row := queryBackRow, standIns := [], harness := (true, "4df121ed19f6036deee738927e9417c3a25506c4baa47ef25816039bfe6d5059"), looks := true }, kinds := [], alts := [], laidByText := true, laidKinds := [.data, .data, .data, .sentinel, .sentinel], laidTests := true, laidLooks := .later }
def QueryBackCardSaid : Prop := Claim7.holds Tryd.pinned (.plain (OpenSpec.ofChange queryBackSpec)) queryBackCard

/-- THE TIED CARD OF 'hindsightlaw.QueryHolds'. -/
def queryHoldsCard : Claim7 := { stood := { row := queryHoldsRow, standIns := [], harness := (true, "4df121ed19f6036deee738927e9417c3a25506c4baa47ef25816039bfe6d5059"), looks := true }, kinds := [], alts := [], laidByText := true, laidKinds := [.data, .data, .data, .sentinel, .sentinel], laidTests := true, laidLooks := .later }
def QueryHoldsCardSaid : Prop := Claim7.holds Tryd.pinned (.plain (OpenSpec.ofChange queryHoldsSpec)) queryHoldsCard

/-- THE TIED CARD OF 'hindsightlaw.QueryHangs'. -/
def queryHangsCard : Claim7 := { stood := { row := queryHangsRow, standIns := [], harness := (true, "4df121ed19f6036deee738927e9417c3a25506c4baa47ef25816039bfe6d5059"), looks := true }, kinds := [], alts := [], laidByText := true, laidKinds := [.data, .data, .data, .sentinel, .sentinel], laidTests := true, laidLooks := .later }
def QueryHangsCardSaid : Prop := Claim7.holds Tryd.pinned (.plain (OpenSpec.ofChange queryHangsSpec)) queryHangsCard

/-- THE SECOND FORM's CARD OF 'hindsightlaw.QueryTells'. -/
def queryTellsUptoCard : Claim7 := { stood := { row := queryTellsUptoRow, standIns := [], harness := (true, "4df121ed19f6036deee738927e9417c3a25506c4baa47ef25816039bfe6d5059"), looks := true }, kinds := [], alts := [], laidByText := true, laidKinds := [.data, .data, .data, .sentinel, .sentinel], laidTests := true, laidLooks := .later }
def QueryTellsUptoCardSaid : Prop := Claim7.holds Tryd.pinned (.plain (OpenSpec.upto queryTellsSpec)) queryTellsUptoCard

/-- THE SECOND FORM's CARD OF 'hindsightlaw.QueryParses'. -/
def queryParsesUptoCard : Claim7 := { stood := { row := queryParsesUptoRow, standIns := [], harness := (true, "4df121ed19f6036deee738927e9417c3a25506c4baa47ef25816039bfe6d5059"), looks := true }, kinds := [], alts := [], laidByText := true, laidKinds := [.data, .data, .data, .sentinel, .sentinel], laidTests := true, laidLooks := .later }
def QueryParsesUptoCardSaid : Prop := Claim7.holds Tryd.pinned (.plain (OpenSpec.upto queryParsesSpec)) queryParsesUptoCard

/-- THE SECOND FORM's CARD OF 'hindsightlaw.QueryBack'. -/
def queryBackUptoCard : Claim7 := { stood := { row := queryBackUptoRow, standIns := [], harness := (true, "4df121ed19f6036deee738927e9417c3a25506c4baa47ef25816039bfe6d5059"), looks := true }, kinds := [], alts := [], laidByText := true, laidKinds := [.data, .data, .data, .sentinel, .sentinel], laidTests := true, laidLooks := .later }
def QueryBackUptoCardSaid : Prop := Claim7.holds Tryd.pinned (.plain (OpenSpec.upto queryBackSpec)) queryBackUptoCard

/-- THE SECOND FORM's CARD OF 'hindsightlaw.QueryHolds'. -/
def queryHoldsUptoCard : Claim7 := { stood := { row := queryHoldsUptoRow, standIns := [], harness := (true, "4df121ed19f6036deee738927e9417c3a25506c4baa47ef25816039bfe6d5059"), looks := true }, kinds := [], alts := [], laidByText := true, laidKinds := [.data, .data, .data, .sentinel, .sentinel], laidTests := true, laidLooks := .later }
def QueryHoldsUptoCardSaid : Prop := Claim7.holds Tryd.pinned (.plain (OpenSpec.upto queryHoldsSpec)) queryHoldsUptoCard

/-- THE SECOND FORM's CARD OF 'hindsightlaw.QueryHangs'. -/
def queryHangsUptoCard : Claim7 := { stood := { row := queryHangsUptoRow, standIns := [], harness := (true, "4df121ed19f6036deee738927e9417c3a25506c4baa47ef25816039bfe6d5059"), looks := true }, kinds := [], alts := [], laidByText := true, laidKinds := [.data, .data, .data, .sentinel, .sentinel], laidTests := true, laidLooks := .later }
def QueryHangsUptoCardSaid : Prop := Claim7.holds Tryd.pinned (.plain (OpenSpec.upto queryHangsSpec)) queryHangsUptoCard
end Rows
end Go.Proofs.YtegknpffiaeohaaDoor
