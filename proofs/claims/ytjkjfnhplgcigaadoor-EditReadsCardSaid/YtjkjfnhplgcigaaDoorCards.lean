/-
  DERIVED. GIVEN WITH THE SEED: THE CARDS: each row of YtjkjfnhplgcigaaDoorRows.lean that lists a variable, with what it lists TIED to the program's text (the seventh form; the later family's looks); each row that meets fmt, with fmt's text TOLD by the authors' own Lean function (tested against real Go, not proved from fmt's source: count such statements apart). THE CARD IS WHAT COUNTS. Prove the row's statement (the work); the ties are given (YtjkjfnhplgcigaaDoorTie.lean); close each card by the builder's one call (the guide's Derived/Test/ToyasCard.lean, 'card_holds'). Laid BY PROGRAM, IN A SANDBOX (cutbox-door.mjs). By AI agents, Wed Nov 11 2026. No macro, syntax, notation, axiom, sorry.
-/
import Derived.Test.YtjkjfnhplgcigaaDoorRows
import GoSem.ClaimSeven
namespace Go.Proofs.YtjkjfnhplgcigaaDoor
namespace Rows

/-- THE TIED CARD OF 'offprintlaw19.EditTells'. -/
def editTellsCard : Claim7 := { stood := { row := editTellsRow, standIns := [], harness := (true, "4f222e7c4b5bc1b0cb2091b1c1d515e0f823a656daf6aa15b255151bcf60f13b"), looks := false }, kinds := [], alts := [], laidByText := true, laidKinds := [.data], laidTests := true, laidLooks := .later }
def EditTellsCardSaid : Prop := Claim7.holds Tryd.pinned (.plain (OpenSpec.ofChange editTellsSpec)) editTellsCard

/-- THE TIED CARD OF 'offprintlaw08.CardwirePuts'. -/
def cardwirePutsCard : Claim7 := { stood := { row := cardwirePutsRow, standIns := [], harness := (true, "4f222e7c4b5bc1b0cb2091b1c1d515e0f823a656daf6aa15b255151bcf60f13b"), looks := false }, kinds := [], alts := [], laidByText := true, laidKinds := [.data], laidTests := true, laidLooks := .later }
def CardwirePutsCardSaid : Prop := Claim7.holds Tryd.pinned (.plain (OpenSpec.ofChange cardwirePutsSpec)) cardwirePutsCard

/-- THE TIED CARD OF 'offprintlaw08.CardwireReads'. -/
def cardwireReadsCard : Claim7 := { stood := { row := cardwireReadsRow, standIns := [], harness := (true, "4f222e7c4b5bc1b0cb2091b1c1d515e0f823a656daf6aa15b255151bcf60f13b"), looks := false }, kinds := [], alts := [], laidByText := true, laidKinds := [.data], laidTests := true, laidLooks := .later }
def CardwireReadsCardSaid : Prop := Claim7.holds Tryd.pinned (.plain (OpenSpec.ofChange cardwireReadsSpec)) cardwireReadsCard

/-- THE TIED CARD OF 'offprintlaw19.EditReads'. -/
def editReadsCard : Claim7 := { stood := { row := editReadsRow, standIns := [], harness := (true, "4f222e7c4b5bc1b0cb2091b1c1d515e0f823a656daf6aa15b255151bcf60f13b"), looks := false }, kinds := [], alts := [], laidByText := true, laidKinds := [.data], laidTests := true, laidLooks := .later }
def EditReadsCardSaid : Prop := Claim7.holds Tryd.pinned (.plain (OpenSpec.ofChange editReadsSpec)) editReadsCard

/-- THE TIED CARD OF 'offprintlaw19.EditBack'. -/
def editBackCard : Claim7 := { stood := { row := editBackRow, standIns := [], harness := (true, "4f222e7c4b5bc1b0cb2091b1c1d515e0f823a656daf6aa15b255151bcf60f13b"), looks := false }, kinds := [], alts := [], laidByText := true, laidKinds := [.data], laidTests := true, laidLooks := .later }
def EditBackCardSaid : Prop := Claim7.holds Tryd.pinned (.plain (OpenSpec.ofChange editBackSpec)) editBackCard

/-- THE TIED CARD OF 'offprintlaw08.CardwireBack'. -/
def cardwireBackCard : Claim7 := { stood := { row := cardwireBackRow, standIns := [], harness := (true, "4f222e7c4b5bc1b0cb2091b1c1d515e0f823a656daf6aa15b255151bcf60f13b"), looks := false }, kinds := [], alts := [], laidByText := true, laidKinds := [.data], laidTests := true, laidLooks := .later }
def CardwireBackCardSaid : Prop := Claim7.holds Tryd.pinned (.plain (OpenSpec.ofChange cardwireBackSpec)) cardwireBackCard

/-- THE TIED CARD OF 'offprintlaw08.CardwireOnly'. -/
def cardwireOnlyCard : Claim7 := { stood := { row := cardwireOnlyRow, standIns := [], harness := (true, "4f222e7c4b5bc1b0cb2091b1c1d515e0f823a656daf6aa15b255151bcf60f13b"), looks := false }, kinds := [], alts := [], laidByText := true, laidKinds := [.data], laidTests := true, laidLooks := .later }
def CardwireOnlyCardSaid : Prop := Claim7.holds Tryd.pinned (.plain (OpenSpec.ofChange cardwireOnlySpec)) cardwireOnlyCard

/-- THE TIED CARD OF 'offprintlaw21.BookwireReads'. -/
def bookwireReadsCard : Claim7 := { stood := { row := bookwireReadsRow, standIns := [], harness := (true, "4f222e7c4b5bc1b0cb2091b1c1d515e0f823a656daf6aa15b255151bcf60f13b"), looks := false }, kinds := [], alts := [], laidByText := true, laidKinds := [.data], laidTests := true, laidLooks := .later }
def BookwireReadsCardSaid : Prop := Claim7.holds Tryd.pinned (.plain (OpenSpec.ofChange bookwireReadsSpec)) bookwireReadsCard

/-- THE TIED CARD OF 'offprintlaw21.BookwireBack'. -/
def bookwireBackCard : Claim7 := { stood := { row := bookwireBackRow, standIns := [], harness := (true, "4f222e7c4b5bc1b0cb2091b1c1d515e0f823a656daf6aa15b255151bcf60f13b"), looks := false }, kinds := [], alts := [], laidByText := true, laidKinds := [.data], laidTests := true, laidLooks := .later }
def BookwireBackCardSaid : Prop := Claim7.holds Tryd.pinned (.plain (OpenSpec.ofChange bookwireBackSpec)) bookwireBackCard

/-- THE SECOND FORM's CARD OF 'offprintlaw19.EditTells'. -/
def editTellsUptoCard : Claim7 := { stood := { row := editTellsUptoRow, standIns := [], harness := (true, "4f222e7c4b5bc1b0cb2091b1c1d515e0f823a656daf6aa15b255151bcf60f13b"), looks := false }, kinds := [], alts := [], laidByText := true, laidKinds := [.data], laidTests := true, laidLooks := .later }
def EditTellsUptoCardSaid : Prop := Claim7.holds Tryd.pinned (.plain (OpenSpec.upto editTellsSpec)) editTellsUptoCard

/-- THE SECOND FORM's CARD OF 'offprintlaw08.CardwirePuts'. -/
def cardwirePutsUptoCard : Claim7 := { stood := { row := cardwirePutsUptoRow, standIns := [], harness := (true, "4f222e7c4b5bc1b0cb2091b1c1d515e0f823a656daf6aa15b255151bcf60f13b"), looks := false }, kinds := [], alts := [], laidByText := true, laidKinds := [.data], laidTests := true, laidLooks := .later }
def CardwirePutsUptoCardSaid : Prop := Claim7.holds Tryd.pinned (.plain (OpenSpec.upto cardwirePutsSpec)) cardwirePutsUptoCard

/-- THE SECOND FORM's CARD OF 'offprintlaw08.CardwireReads'. -/
def cardwireReadsUptoCard : Claim7 := { stood := { row := cardwireReadsUptoRow, standIns := [], harness := (true, "4f222e7c4b5bc1b0cb2091b1c1d515e0f823a656daf6aa15b255151bcf60f13b"), looks := false }, kinds := [], alts := [], laidByText := true, laidKinds := [.data], laidTests := true, laidLooks := .later }
def CardwireReadsUptoCardSaid : Prop := Claim7.holds Tryd.pinned (.plain (OpenSpec.upto cardwireReadsSpec)) cardwireReadsUptoCard

/-- THE SECOND FORM's CARD OF 'offprintlaw19.EditReads'. -/
def editReadsUptoCard : Claim7 := { stood := { row := editReadsUptoRow, standIns := [], harness := (true, "4f222e7c4b5bc1b0cb2091b1c1d515e0f823a656daf6aa15b255151bcf60f13b"), looks := false }, kinds := [], alts := [], laidByText := true, laidKinds := [.data], laidTests := true, laidLooks := .later }
def EditReadsUptoCardSaid : Prop := Claim7.holds Tryd.pinned (.plain (OpenSpec.upto editReadsSpec)) editReadsUptoCard

/-- THE SECOND FORM's CARD OF 'offprintlaw19.EditBack'. -/
def editBackUptoCard : Claim7 := { stood := { row := editBackUptoRow, standIns := [], harness := (true, "4f222e7c4b5bc1b0cb2091b1c1d515e0f823a656daf6aa15b255151bcf60f13b"), looks := false }, kinds := [], alts := [], laidByText := true, laidKinds := [.data], laidTests := true, laidLooks := .later }
def EditBackUptoCardSaid : Prop := Claim7.holds Tryd.pinned (.plain (OpenSpec.upto editBackSpec)) editBackUptoCard

/-- THE SECOND FORM's CARD OF 'offprintlaw08.CardwireBack'. -/
def cardwireBackUptoCard : Claim7 := { stood := { row := cardwireBackUptoRow, standIns := [], harness := (true, "4f222e7c4b5bc1b0cb2091b1c1d515e0f823a656daf6aa15b255151bcf60f13b"), looks := false }, kinds := [], alts := [], laidByText := true, laidKinds := [.data], laidTests := true, laidLooks := .later }
def CardwireBackUptoCardSaid : Prop := Claim7.holds Tryd.pinned (.plain (OpenSpec.upto cardwireBackSpec)) cardwireBackUptoCard

/-- THE SECOND FORM's CARD OF 'offprintlaw08.CardwireOnly'. -/
def cardwireOnlyUptoCard : Claim7 := { stood := { row := cardwireOnlyUptoRow, standIns := [], harness := (true, "4f222e7c4b5bc1b0cb2091b1c1d515e0f823a656daf6aa15b255151bcf60f13b"), looks := false }, kinds := [], alts := [], laidByText := true, laidKinds := [.data], laidTests := true, laidLooks := .later }
def CardwireOnlyUptoCardSaid : Prop := Claim7.holds Tryd.pinned (.plain (OpenSpec.upto cardwireOnlySpec)) cardwireOnlyUptoCard

/-- THE SECOND FORM's CARD OF 'offprintlaw21.BookwireReads'. -/
def bookwireReadsUptoCard : Claim7 := { stood := { row := bookwireReadsUptoRow, standIns := [], harness := (true, "4f222e7c4b5bc1b0cb2091b1c1d515e0f823a656daf6aa15b255151bcf60f13b"), looks := false }, kinds := [], alts := [], laidByText := true, laidKinds := [.data], laidTests := true, laidLooks := .later }
def BookwireReadsUptoCardSaid : Prop := Claim7.holds Tryd.pinned (.plain (OpenSpec.upto bookwireReadsSpec)) bookwireReadsUptoCard

/-- THE SECOND FORM's CARD OF 'offprintlaw21.BookwireBack'. -/
def bookwireBackUptoCard : Claim7 := { stood := { row := bookwireBackUptoRow, standIns := [], harness := (true, "4f222e7c4b5bc1b0cb2091b1c1d515e0f823a656daf6aa15b255151bcf60f13b"), looks := false }, kinds := [], alts := [], laidByText := true, laidKinds := [.data], laidTests := true, laidLooks := .later }
def BookwireBackUptoCardSaid : Prop := Claim7.holds Tryd.pinned (.plain (OpenSpec.upto bookwireBackSpec)) bookwireBackUptoCard
end Rows
end Go.Proofs.YtjkjfnhplgcigaaDoor
