/-
  DERIVED. GIVEN WITH THE SEED: THE CARDS: each row of YtjhndilflcigiaaDoorRows.lean that lists a variable, with what it lists TIED to the program's text (the seventh form; the later family's looks); each row that meets fmt, with fmt's text TOLD by the authors' own Lean function (tested against real Go, not proved from fmt's source: count such statements apart). THE CARD IS WHAT COUNTS. Prove the row's statement (the work); the ties are given (YtjhndilflcigiaaDoorTie.lean); close each card by the builder's one call (the guide's Derived/Test/ToyasCard.lean, 'card_holds'). Laid BY PROGRAM, IN A SANDBOX (cutbox-door.mjs). By AI agents, Wed Nov 11 2026. No macro, syntax, notation, axiom, sorry.
-/
import Derived.Test.YtjhndilflcigiaaDoorRows
import GoSem.ClaimSeven
namespace Go.Proofs.YtjhndilflcigiaaDoor
namespace Rows

/-- THE TIED CARD OF 'offprintlaw33.CmdwirePuts'. -/
def cmdwirePutsCard : Claim7 := { stood := { row := cmdwirePutsRow, standIns := [], harness := (true, "6a0a62d44c71c23fcc00c93ae5efdbaf522a5482fcae6e9390356a4daeed9f17"), looks := false }, kinds := [], alts := [], laidByText := true, laidKinds := [.data], laidTests := true, laidLooks := .later }
def CmdwirePutsCardSaid : Prop := Claim7.holds Tryd.pinned (.plain (OpenSpec.ofChange cmdwirePutsSpec)) cmdwirePutsCard

/-- THE TIED CARD OF 'offprintlaw26.TokenReads'. -/
def tokenReadsCard : Claim7 := { stood := { row := tokenReadsRow, standIns := [], harness := (true, "6a0a62d44c71c23fcc00c93ae5efdbaf522a5482fcae6e9390356a4daeed9f17"), looks := false }, kinds := [], alts := [], laidByText := true, laidKinds := [.data, .data, .data], laidTests := true, laidLooks := .later }
def TokenReadsCardSaid : Prop := Claim7.holds Tryd.pinned (.plain (OpenSpec.ofChange tokenReadsSpec)) tokenReadsCard

/-- THE TIED CARD OF 'offprintlaw21.BookwireReads'. -/
def bookwireReadsCard : Claim7 := { stood := { row := bookwireReadsRow, standIns := [], harness := (true, "6a0a62d44c71c23fcc00c93ae5efdbaf522a5482fcae6e9390356a4daeed9f17"), looks := false }, kinds := [], alts := [], laidByText := true, laidKinds := [.data], laidTests := true, laidLooks := .later }
def BookwireReadsCardSaid : Prop := Claim7.holds Tryd.pinned (.plain (OpenSpec.ofChange bookwireReadsSpec)) bookwireReadsCard

/-- THE TIED CARD OF 'offprintlaw21.BookwireBack'. -/
def bookwireBackCard : Claim7 := { stood := { row := bookwireBackRow, standIns := [], harness := (true, "6a0a62d44c71c23fcc00c93ae5efdbaf522a5482fcae6e9390356a4daeed9f17"), looks := false }, kinds := [], alts := [], laidByText := true, laidKinds := [.data], laidTests := true, laidLooks := .later }
def BookwireBackCardSaid : Prop := Claim7.holds Tryd.pinned (.plain (OpenSpec.ofChange bookwireBackSpec)) bookwireBackCard

/-- THE TIED CARD OF 'offprintlaw33.CmdwireReads'. -/
def cmdwireReadsCard : Claim7 := { stood := { row := cmdwireReadsRow, standIns := [], harness := (true, "6a0a62d44c71c23fcc00c93ae5efdbaf522a5482fcae6e9390356a4daeed9f17"), looks := false }, kinds := [], alts := [], laidByText := true, laidKinds := [.data], laidTests := true, laidLooks := .later }
def CmdwireReadsCardSaid : Prop := Claim7.holds Tryd.pinned (.plain (OpenSpec.ofChange cmdwireReadsSpec)) cmdwireReadsCard

/-- THE TIED CARD OF 'offprintlaw33.CmdwireBack'. -/
def cmdwireBackCard : Claim7 := { stood := { row := cmdwireBackRow, standIns := [], harness := (true, "6a0a62d44c71c23fcc00c93ae5efdbaf522a5482fcae6e9390356a4daeed9f17"), looks := false }, kinds := [], alts := [], laidByText := true, laidKinds := [.data], laidTests := true, laidLooks := .later }
def CmdwireBackCardSaid : Prop := Claim7.holds Tryd.pinned (.plain (OpenSpec.ofChange cmdwireBackSpec)) cmdwireBackCard

/-- THE SECOND FORM's CARD OF 'offprintlaw33.CmdwirePuts'. -/
def cmdwirePutsUptoCard : Claim7 := { stood := { row := cmdwirePutsUptoRow, standIns := [], harness := (true, "6a0a62d44c71c23fcc00c93ae5efdbaf522a5482fcae6e9390356a4daeed9f17"), looks := false }, kinds := [], alts := [], laidByText := true, laidKinds := [.data], laidTests := true, laidLooks := .later }
def CmdwirePutsUptoCardSaid : Prop := Claim7.holds Tryd.pinned (.plain (OpenSpec.upto cmdwirePutsSpec)) cmdwirePutsUptoCard

/-- THE SECOND FORM's CARD OF 'offprintlaw26.TokenReads'. -/
def tokenReadsUptoCard : Claim7 := { stood := { row := tokenReadsUptoRow, standIns := [], harness := (true, "6a0a62d44c71c23fcc00c93ae5efdbaf522a5482fcae6e9390356a4daeed9f17"), looks := false }, kinds := [], alts := [], laidByText := true, laidKinds := [.data, .data, .data], laidTests := true, laidLooks := .later }
def TokenReadsUptoCardSaid : Prop := Claim7.holds Tryd.pinned (.plain (OpenSpec.upto tokenReadsSpec)) tokenReadsUptoCard

/-- THE SECOND FORM's CARD OF 'offprintlaw21.BookwireReads'. -/
def bookwireReadsUptoCard : Claim7 := { stood := { row := bookwireReadsUptoRow, standIns := [], harness := (true, "6a0a62d44c71c23fcc00c93ae5efdbaf522a5482fcae6e9390356a4daeed9f17"), looks := false }, kinds := [], alts := [], laidByText := true, laidKinds := [.data], laidTests := true, laidLooks := .later }
def BookwireReadsUptoCardSaid : Prop := Claim7.holds Tryd.pinned (.plain (OpenSpec.upto bookwireReadsSpec)) bookwireReadsUptoCard

/-- THE SECOND FORM's CARD OF 'offprintlaw21.BookwireBack'. -/
def bookwireBackUptoCard : Claim7 := { stood := { row := bookwireBackUptoRow, standIns := [], harness := (true, "6a0a62d44c71c23fcc00c93ae5efdbaf522a5482fcae6e9390356a4daeed9f17"), looks := false }, kinds := [], alts := [], laidByText := true, laidKinds := [.data], laidTests := true, laidLooks := .later }
def BookwireBackUptoCardSaid : Prop := Claim7.holds Tryd.pinned (.plain (OpenSpec.upto bookwireBackSpec)) bookwireBackUptoCard

/-- THE SECOND FORM's CARD OF 'offprintlaw33.CmdwireReads'. -/
def cmdwireReadsUptoCard : Claim7 := { stood := { row := cmdwireReadsUptoRow, standIns := [], harness := (true, "6a0a62d44c71c23fcc00c93ae5efdbaf522a5482fcae6e9390356a4daeed9f17"), looks := false }, kinds := [], alts := [], laidByText := true, laidKinds := [.data], laidTests := true, laidLooks := .later }
def CmdwireReadsUptoCardSaid : Prop := Claim7.holds Tryd.pinned (.plain (OpenSpec.upto cmdwireReadsSpec)) cmdwireReadsUptoCard

/-- THE SECOND FORM's CARD OF 'offprintlaw33.CmdwireBack'. -/
def cmdwireBackUptoCard : Claim7 := { stood := { row := cmdwireBackUptoRow, standIns := [], harness := (true, "6a0a62d44c71c23fcc00c93ae5efdbaf522a5482fcae6e9390356a4daeed9f17"), looks := false }, kinds := [], alts := [], laidByText := true, laidKinds := [.data], laidTests := true, laidLooks := .later }
def CmdwireBackUptoCardSaid : Prop := Claim7.holds Tryd.pinned (.plain (OpenSpec.upto cmdwireBackSpec)) cmdwireBackUptoCard
end Rows
end Go.Proofs.YtjhndilflcigiaaDoor
