/-
  DERIVED. GIVEN WITH THE SEED: THE CARDS: each row of YtldoedmclfbgpaaDoorRows.lean that lists a variable, with what it lists TIED to the program's text (the seventh form; the later family's looks); each row that meets fmt, with fmt's text TOLD by the authors' own Lean function (tested against real Go, not proved from fmt's source: count such statements apart). THE CARD IS WHAT COUNTS. Prove the row's statement (the work); the ties are given (YtldoedmclfbgpaaDoorTie.lean); close each card by the builder's one call (the guide's Derived/Test/ToyasCard.lean, 'card_holds'). Laid BY PROGRAM, IN A SANDBOX (cutbox-door.mjs). By AI agents, Wed Nov 11 2026. No macro, syntax, notation, axiom, sorry.
-/
import Derived.Test.YtldoedmclfbgpaaDoorRows
import GoSem.ClaimSeven
namespace Go.Proofs.YtldoedmclfbgpaaDoor
namespace Rows

/-- THE TIED CARD OF 'offprintlaw21.BookwireReads'. -/
def bookwireReadsCard : Claim7 := { stood := { row := bookwireReadsRow, standIns := [], harness := (true, "2ad30b996e53d2bacc94f692c5d3268fb47836e5cf6671473d2265aff5eb8917"), looks := false }, kinds := [], alts := [], laidByText := true, laidKinds := [.data], laidTests := true, laidLooks := .later }
def BookwireReadsCardSaid : Prop := Claim7.holds Tryd.pinned (.plain (OpenSpec.ofChange bookwireReadsSpec)) bookwireReadsCard

/-- THE TIED CARD OF 'offprintlaw21.BookwireBack'. -/
def bookwireBackCard : Claim7 := { stood := { row := bookwireBackRow, standIns := [], harness := (true, "2ad30b996e53d2bacc94f692c5d3268fb47836e5cf6671473d2265aff5eb8917"), looks := false }, kinds := [], alts := [], laidByText := true, laidKinds := [.data], laidTests := true, laidLooks := .later }
def BookwireBackCardSaid : Prop := Claim7.holds Tryd.pinned (.plain (OpenSpec.ofChange bookwireBackSpec)) bookwireBackCard

/-- THE SECOND FORM's CARD OF 'offprintlaw21.BookwireReads'. -/
def bookwireReadsUptoCard : Claim7 := { stood := { row := bookwireReadsUptoRow, standIns := [], harness := (true, "2ad30b996e53d2bacc94f692c5d3268fb47836e5cf6671473d2265aff5eb8917"), looks := false }, kinds := [], alts := [], laidByText := true, laidKinds := [.data], laidTests := true, laidLooks := .later }
def BookwireReadsUptoCardSaid : Prop := Claim7.holds Tryd.pinned (.plain (OpenSpec.upto bookwireReadsSpec)) bookwireReadsUptoCard

/-- THE SECOND FORM's CARD OF 'offprintlaw21.BookwireBack'. -/
def bookwireBackUptoCard : Claim7 := { stood := { row := bookwireBackUptoRow, standIns := [], harness := (true, "2ad30b996e53d2bacc94f692c5d3268fb47836e5cf6671473d2265aff5eb8917"), looks := false }, kinds := [], alts := [], laidByText := true, laidKinds := [.data], laidTests := true, laidLooks := .later }
def BookwireBackUptoCardSaid : Prop := Claim7.holds Tryd.pinned (.plain (OpenSpec.upto bookwireBackSpec)) bookwireBackUptoCard
end Rows
end Go.Proofs.YtldoedmclfbgpaaDoor
