/-
  No cell of these rows narrows 'for every input' (looked for: loops, veiled, ifaces, maps, wideKeys, modest, calm, conditions, laid).
  DERIVED. THE GIVEN ROWS OF THIS SEAT. 12 by the template 'for every input the law returns true; each argument reads behind the call as it read before'; 0 by the template 'total and deterministic' (their statements: YtoekhnppcakdnaaTotals.lean).
  GIVEN WITH THE SEED: the statements are not yours to turn. If you find one false, say at which input.
  Laid BY PROGRAM, IN A SANDBOX (cutbox-rows.mjs): the forced cells as the released guide's own fill.sh prints them over the translation d08a141f5daa6014… (all of the seat's roots in one cut). By AI agents, Wed Nov 11 2026. No macro, syntax, notation, axiom, sorry.
-/
import Derived.Test.YtoekhnppcakdnaaChecked
import GoSem.Claim
import GoSem.ClaimJoined
import GoSem.ClaimMapViews
import Derived.JoinedTies
import Derived.KernelRfl
namespace Go.Proofs.Ytoekhnppcakdnaa
/- THE CELL 'sum', in the pinned program and in every row, IS THE sha256 OF THE DUMP (.gsa) THAT YtoekhnppcakdnaaProg.lean LOADS. Nothing in Lean hashes anything: it is a label: what it is worth is what the hold of that sum in a sandbox is worth. -/
noncomputable def Try.pinned : Pinned := { name := "ytoekhnppcakdnaa", sum := "d08a141f5daa60148a78a70eb71c430dd5b299b0d2c2368bf44294cedb2301aa", checked := Try.checked }
namespace Rows
def none {H : Type} : Left H := { results := [], args := [] }

/-- 'offprintlaw10.PredChecks': WHATEVER THE INPUT: true; the input reads as it did. -/
def predChecksSpec : ChangeSpec := { name := "predChecks", fn := fun _ => fun
  | [d1, d2] => { results := [.lit (.bool true)], args := [d1, d2] }
  | _ => none }
def predChecksRow : OpenClaim := { program := "ytoekhnppcakdnaa", sum := "d08a141f5daa60148a78a70eb71c430dd5b299b0d2c2368bf44294cedb2301aa", func := "offprint/offprintlaw10.PredChecks", spec := "predChecks", unfollowed := true, recurses := true, apart := false }
def PredChecksSaid : Prop := predChecksRow.holds Try.pinned (OpenSpec.ofChange predChecksSpec)

/-- ITS FALSE NEIGHBOUR: 'it returns false'. Refute it at one input. -/
def predChecksWrong : ChangeSpec := { name := "predChecks", fn := fun _ => fun
  | [d1, d2] => { results := [.lit (.bool false)], args := [d1, d2] }
  | _ => none }
def PredChecksWrongFalsely : Prop := predChecksRow.holds Try.pinned (OpenSpec.ofChange predChecksWrong)

/-- 'offprintlaw09.LexBack': WHATEVER THE INPUT: true; the input reads as it did. -/
def lexBackSpec : ChangeSpec := { name := "lexBack", fn := fun _ => fun
  | [d1, d2] => { results := [.lit (.bool true)], args := [d1, d2] }
  | _ => none }
def lexBackRow : OpenClaim := { program := "ytoekhnppcakdnaa", sum := "d08a141f5daa60148a78a70eb71c430dd5b299b0d2c2368bf44294cedb2301aa", func := "offprint/offprintlaw09.LexBack", spec := "lexBack", inPlace := ["internal/bytealg.IndexByteString"], recurses := true, apart := false }
def LexBackSaid : Prop := lexBackRow.holds Try.pinned (OpenSpec.ofChange lexBackSpec)

/-- ITS FALSE NEIGHBOUR: 'it returns false'. Refute it at one input. -/
def lexBackWrong : ChangeSpec := { name := "lexBack", fn := fun _ => fun
  | [d1, d2] => { results := [.lit (.bool false)], args := [d1, d2] }
  | _ => none }
def LexBackWrongFalsely : Prop := lexBackRow.holds Try.pinned (OpenSpec.ofChange lexBackWrong)

/-- 'offprintlaw16.PredwirePuts': WHATEVER THE INPUT: true; the input reads as it did. -/
def predwirePutsSpec : ChangeSpec := { name := "predwirePuts", fn := fun _ => fun
  | [d1, d2] => { results := [.lit (.bool true)], args := [d1, d2] }
  | _ => none }
def predwirePutsRow : OpenClaim := { program := "ytoekhnppcakdnaa", sum := "d08a141f5daa60148a78a70eb71c430dd5b299b0d2c2368bf44294cedb2301aa", func := "offprint/offprintlaw16.PredwirePuts", spec := "predwirePuts", unfollowed := true, recurses := true, apart := false }
def PredwirePutsSaid : Prop := predwirePutsRow.holds Try.pinned (OpenSpec.ofChange predwirePutsSpec)

/-- ITS FALSE NEIGHBOUR: 'it returns false'. Refute it at one input. -/
def predwirePutsWrong : ChangeSpec := { name := "predwirePuts", fn := fun _ => fun
  | [d1, d2] => { results := [.lit (.bool false)], args := [d1, d2] }
  | _ => none }
def PredwirePutsWrongFalsely : Prop := predwirePutsRow.holds Try.pinned (OpenSpec.ofChange predwirePutsWrong)

/-- 'offprintlaw10.PredJoins': WHATEVER THE INPUT: true; the input reads as it did. -/
def predJoinsSpec : ChangeSpec := { name := "predJoins", fn := fun _ => fun
  | [d1, d2] => { results := [.lit (.bool true)], args := [d1, d2] }
  | _ => none }
def predJoinsRow : OpenClaim := { program := "ytoekhnppcakdnaa", sum := "d08a141f5daa60148a78a70eb71c430dd5b299b0d2c2368bf44294cedb2301aa", func := "offprint/offprintlaw10.PredJoins", spec := "predJoins", unfollowed := true, recurses := true, apart := false }
def PredJoinsSaid : Prop := predJoinsRow.holds Try.pinned (OpenSpec.ofChange predJoinsSpec)

/-- ITS FALSE NEIGHBOUR: 'it returns false'. Refute it at one input. -/
def predJoinsWrong : ChangeSpec := { name := "predJoins", fn := fun _ => fun
  | [d1, d2] => { results := [.lit (.bool false)], args := [d1, d2] }
  | _ => none }
def PredJoinsWrongFalsely : Prop := predJoinsRow.holds Try.pinned (OpenSpec.ofChange predJoinsWrong)

/-- 'offprintlaw09.LexWords': WHATEVER THE INPUT: true; the input reads as it did. -/
def lexWordsSpec : ChangeSpec := { name := "lexWords", fn := fun _ => fun
  | [d] => { results := [.lit (.bool true)], args := [d] }
  | _ => none }
def lexWordsRow : OpenClaim := { program := "ytoekhnppcakdnaa", sum := "d08a141f5daa60148a78a70eb71c430dd5b299b0d2c2368bf44294cedb2301aa", func := "offprint/offprintlaw09.LexWords", spec := "lexWords", inPlace := ["internal/bytealg.IndexByteString"], unfollowed := true, recurses := true, apart := false }
def LexWordsSaid : Prop := lexWordsRow.holds Try.pinned (OpenSpec.ofChange lexWordsSpec)

/-- ITS FALSE NEIGHBOUR: 'it returns false'. Refute it at one input. -/
def lexWordsWrong : ChangeSpec := { name := "lexWords", fn := fun _ => fun
  | [d] => { results := [.lit (.bool false)], args := [d] }
  | _ => none }
def LexWordsWrongFalsely : Prop := lexWordsRow.holds Try.pinned (OpenSpec.ofChange lexWordsWrong)

/-- 'offprintlaw10.PredParts': WHATEVER THE INPUT: true; the input reads as it did. -/
def predPartsSpec : ChangeSpec := { name := "predParts", fn := fun _ => fun
  | [d1, d2, d3] => { results := [.lit (.bool true)], args := [d1, d2, d3] }
  | _ => none }
def predPartsRow : OpenClaim := { program := "ytoekhnppcakdnaa", sum := "d08a141f5daa60148a78a70eb71c430dd5b299b0d2c2368bf44294cedb2301aa", func := "offprint/offprintlaw10.PredParts", spec := "predParts", unfollowed := true, recurses := true, apart := false }
def PredPartsSaid : Prop := predPartsRow.holds Try.pinned (OpenSpec.ofChange predPartsSpec)

/-- ITS FALSE NEIGHBOUR: 'it returns false'. Refute it at one input. -/
def predPartsWrong : ChangeSpec := { name := "predParts", fn := fun _ => fun
  | [d1, d2, d3] => { results := [.lit (.bool false)], args := [d1, d2, d3] }
  | _ => none }
def PredPartsWrongFalsely : Prop := predPartsRow.holds Try.pinned (OpenSpec.ofChange predPartsWrong)

/-- 'offprintlaw16.PredwireReads': WHATEVER THE INPUT: true; the input reads as it did. -/
def predwireReadsSpec : ChangeSpec := { name := "predwireReads", fn := fun _ => fun
  | [d] => { results := [.lit (.bool true)], args := [d] }
  | _ => none }
def predwireReadsRow : OpenClaim := { program := "ytoekhnppcakdnaa", sum := "d08a141f5daa60148a78a70eb71c430dd5b299b0d2c2368bf44294cedb2301aa", func := "offprint/offprintlaw16.PredwireReads", spec := "predwireReads", unfollowed := true, recurses := true, apart := false }
def PredwireReadsSaid : Prop := predwireReadsRow.holds Try.pinned (OpenSpec.ofChange predwireReadsSpec)

/-- ITS FALSE NEIGHBOUR: 'it returns false'. Refute it at one input. -/
def predwireReadsWrong : ChangeSpec := { name := "predwireReads", fn := fun _ => fun
  | [d] => { results := [.lit (.bool false)], args := [d] }
  | _ => none }
def PredwireReadsWrongFalsely : Prop := predwireReadsRow.holds Try.pinned (OpenSpec.ofChange predwireReadsWrong)

/-- 'offprintlaw16.PredwireBack': WHATEVER THE INPUT: true; the input reads as it did. -/
def predwireBackSpec : ChangeSpec := { name := "predwireBack", fn := fun _ => fun
  | [d1, d2] => { results := [.lit (.bool true)], args := [d1, d2] }
  | _ => none }
def predwireBackRow : OpenClaim := { program := "ytoekhnppcakdnaa", sum := "d08a141f5daa60148a78a70eb71c430dd5b299b0d2c2368bf44294cedb2301aa", func := "offprint/offprintlaw16.PredwireBack", spec := "predwireBack", unfollowed := true, recurses := true, apart := false }
def PredwireBackSaid : Prop := predwireBackRow.holds Try.pinned (OpenSpec.ofChange predwireBackSpec)

/-- ITS FALSE NEIGHBOUR: 'it returns false'. Refute it at one input. -/
def predwireBackWrong : ChangeSpec := { name := "predwireBack", fn := fun _ => fun
  | [d1, d2] => { results := [.lit (.bool false)], args := [d1, d2] }
  | _ => none }
def PredwireBackWrongFalsely : Prop := predwireBackRow.holds Try.pinned (OpenSpec.ofChange predwireBackWrong)

/-- 'offprintlaw11.ParseTells': WHATEVER THE INPUT: true; the input reads as it did. -/
def parseTellsSpec : ChangeSpec := { name := "parseTells", fn := fun _ => fun
  | [d] => { results := [.lit (.bool true)], args := [d] }
  | _ => none }
def parseTellsRow : OpenClaim := { program := "ytoekhnppcakdnaa", sum := "d08a141f5daa60148a78a70eb71c430dd5b299b0d2c2368bf44294cedb2301aa", func := "offprint/offprintlaw11.ParseTells", spec := "parseTells", inPlace := ["internal/bytealg.IndexByteString"], unfollowed := true, recurses := true, apart := false }
def ParseTellsSaid : Prop := parseTellsRow.holds Try.pinned (OpenSpec.ofChange parseTellsSpec)

/-- ITS FALSE NEIGHBOUR: 'it returns false'. Refute it at one input. -/
def parseTellsWrong : ChangeSpec := { name := "parseTells", fn := fun _ => fun
  | [d] => { results := [.lit (.bool false)], args := [d] }
  | _ => none }
def ParseTellsWrongFalsely : Prop := parseTellsRow.holds Try.pinned (OpenSpec.ofChange parseTellsWrong)

/-- 'offprintlaw11.ParseBlanks': WHATEVER THE INPUT: true; the input reads as it did. -/
def parseBlanksSpec : ChangeSpec := { name := "parseBlanks", fn := fun _ => fun
  | [d1, d2] => { results := [.lit (.bool true)], args := [d1, d2] }
  | _ => none }
def parseBlanksRow : OpenClaim := { program := "ytoekhnppcakdnaa", sum := "d08a141f5daa60148a78a70eb71c430dd5b299b0d2c2368bf44294cedb2301aa", func := "offprint/offprintlaw11.ParseBlanks", spec := "parseBlanks", inPlace := ["internal/bytealg.IndexByteString"], unfollowed := true, recurses := true, apart := false }
def ParseBlanksSaid : Prop := parseBlanksRow.holds Try.pinned (OpenSpec.ofChange parseBlanksSpec)

/-- ITS FALSE NEIGHBOUR: 'it returns false'. Refute it at one input. -/
def parseBlanksWrong : ChangeSpec := { name := "parseBlanks", fn := fun _ => fun
  | [d1, d2] => { results := [.lit (.bool false)], args := [d1, d2] }
  | _ => none }
def ParseBlanksWrongFalsely : Prop := parseBlanksRow.holds Try.pinned (OpenSpec.ofChange parseBlanksWrong)

/-- 'offprintlaw12.ShowTells': WHATEVER THE INPUT: true; the input reads as it did. -/
def showTellsSpec : ChangeSpec := { name := "showTells", fn := fun _ => fun
  | [d1, d2] => { results := [.lit (.bool true)], args := [d1, d2] }
  | _ => none }
def showTellsRow : OpenClaim := { program := "ytoekhnppcakdnaa", sum := "d08a141f5daa60148a78a70eb71c430dd5b299b0d2c2368bf44294cedb2301aa", func := "offprint/offprintlaw12.ShowTells", spec := "showTells", inPlace := ["internal/abi.NoEscape"], unfollowed := true, recurses := true, apart := false }
def ShowTellsSaid : Prop := showTellsRow.holds Try.pinned (OpenSpec.ofChange showTellsSpec)

/-- ITS FALSE NEIGHBOUR: 'it returns false'. Refute it at one input. -/
def showTellsWrong : ChangeSpec := { name := "showTells", fn := fun _ => fun
  | [d1, d2] => { results := [.lit (.bool false)], args := [d1, d2] }
  | _ => none }
def ShowTellsWrongFalsely : Prop := showTellsRow.holds Try.pinned (OpenSpec.ofChange showTellsWrong)

/-- 'offprintlaw12.ShowBack': WHATEVER THE INPUT: true; the input reads as it did. -/
def showBackSpec : ChangeSpec := { name := "showBack", fn := fun _ => fun
  | [d1, d2] => { results := [.lit (.bool true)], args := [d1, d2] }
  | _ => none }
def showBackRow : OpenClaim := { program := "ytoekhnppcakdnaa", sum := "d08a141f5daa60148a78a70eb71c430dd5b299b0d2c2368bf44294cedb2301aa", func := "offprint/offprintlaw12.ShowBack", spec := "showBack", inPlace := ["internal/bytealg.IndexByteString"], unfollowed := true, recurses := true, apart := false }
def ShowBackSaid : Prop := showBackRow.holds Try.pinned (OpenSpec.ofChange showBackSpec)

/-- ITS FALSE NEIGHBOUR: 'it returns false'. Refute it at one input. -/
def showBackWrong : ChangeSpec := { name := "showBack", fn := fun _ => fun
  | [d1, d2] => { results := [.lit (.bool false)], args := [d1, d2] }
  | _ => none }
def ShowBackWrongFalsely : Prop := showBackRow.holds Try.pinned (OpenSpec.ofChange showBackWrong)

/- THE SECOND FORM. 'bulk': how many values and letters a reading holds, each counted each time it is reached (what is shared counts as often as it is met; a slice's spare places count too). A statement '..UptoSaid' is the law's where the arguments, and the package variables that the reading takes, are together of bulk at most 1048576: NARROWER than '..Said'. Prove '..Said' where nothing that the law and all that it calls make is longer than what came in: it says more and counts as full. Else prove '..UptoSaid'. A law counts once. -/
mutual
def uptoBulk {H : Type} : DataW H → Nat
  | .lit (.string bytes) => bytes.length + 1
  | .lit _ => 1
  | .nil => 1
  | .ptr d => uptoBulk d + 1
  | .slice elems spare => uptoBulkAll elems + uptoBulkAll spare + 1
  | .agg parts => uptoBulkAll parts + 1
  | .iface _ d => uptoBulk d + 1
  | .map entries => uptoBulkEntries entries + 1
  | .held _ => 1
def uptoBulkAll {H : Type} : List (DataW H) → Nat
  | [] => 0
  | d :: r => uptoBulk d + uptoBulkAll r
def uptoBulkEntries {H : Type} : List (Lit × DataW H) → Nat
  | [] => 0
  | x :: r => uptoBulkEntry x + uptoBulkEntries r
def uptoBulkEntry {H : Type} : Lit × DataW H → Nat
  | (.string bytes, d) => bytes.length + uptoBulk d + 1
  | (_, d) => uptoBulk d + 1
 end
def uptoSmall : (H : Type) → List (DataW H) → Bool := fun _ ds => decide (uptoBulkAll ds ≤ 1048576)
def OpenSpec.upto (s : _root_.Go.ChangeSpec) : _root_.Go.OpenSpec := { _root_.Go.OpenSpec.ofChange s with cond := some uptoSmall }

/-- 'offprintlaw10.PredChecks', WHERE WHAT IT READS IS OF BULK AT MOST 1048576: true; the input reads as it did. -/
def predChecksUptoRow : OpenClaim := { program := "ytoekhnppcakdnaa", sum := "d08a141f5daa60148a78a70eb71c430dd5b299b0d2c2368bf44294cedb2301aa", func := "offprint/offprintlaw10.PredChecks", spec := "predChecks", unfollowed := true, recurses := true, apart := false, narrowed := true }
def PredChecksUptoSaid : Prop := predChecksUptoRow.holds Try.pinned (OpenSpec.upto predChecksSpec)

/-- 'offprintlaw09.LexBack', WHERE WHAT IT READS IS OF BULK AT MOST 1048576: true; the input reads as it did. -/
def lexBackUptoRow : OpenClaim := { program := "ytoekhnppcakdnaa", sum := "d08a141f5daa60148a78a70eb71c430dd5b299b0d2c2368bf44294cedb2301aa", func := "offprint/offprintlaw09.LexBack", spec := "lexBack", inPlace := ["internal/bytealg.IndexByteString"], recurses := true, apart := false, narrowed := true }
def LexBackUptoSaid : Prop := lexBackUptoRow.holds Try.pinned (OpenSpec.upto lexBackSpec)

/-- 'offprintlaw16.PredwirePuts', WHERE WHAT IT READS IS OF BULK AT MOST 1048576: true; the input reads as it did. -/
def predwirePutsUptoRow : OpenClaim := { program := "ytoekhnppcakdnaa", sum := "d08a141f5daa60148a78a70eb71c430dd5b299b0d2c2368bf44294cedb2301aa", func := "offprint/offprintlaw16.PredwirePuts", spec := "predwirePuts", unfollowed := true, recurses := true, apart := false, narrowed := true }
def PredwirePutsUptoSaid : Prop := predwirePutsUptoRow.holds Try.pinned (OpenSpec.upto predwirePutsSpec)

/-- 'offprintlaw10.PredJoins', WHERE WHAT IT READS IS OF BULK AT MOST 1048576: true; the input reads as it did. -/
def predJoinsUptoRow : OpenClaim := { program := "ytoekhnppcakdnaa", sum := "d08a141f5daa60148a78a70eb71c430dd5b299b0d2c2368bf44294cedb2301aa", func := "offprint/offprintlaw10.PredJoins", spec := "predJoins", unfollowed := true, recurses := true, apart := false, narrowed := true }
def PredJoinsUptoSaid : Prop := predJoinsUptoRow.holds Try.pinned (OpenSpec.upto predJoinsSpec)

/-- 'offprintlaw09.LexWords', WHERE WHAT IT READS IS OF BULK AT MOST 1048576: true; the input reads as it did. -/
def lexWordsUptoRow : OpenClaim := { program := "ytoekhnppcakdnaa", sum := "d08a141f5daa60148a78a70eb71c430dd5b299b0d2c2368bf44294cedb2301aa", func := "offprint/offprintlaw09.LexWords", spec := "lexWords", inPlace := ["internal/bytealg.IndexByteString"], unfollowed := true, recurses := true, apart := false, narrowed := true }
def LexWordsUptoSaid : Prop := lexWordsUptoRow.holds Try.pinned (OpenSpec.upto lexWordsSpec)

/-- 'offprintlaw10.PredParts', WHERE WHAT IT READS IS OF BULK AT MOST 1048576: true; the input reads as it did. -/
def predPartsUptoRow : OpenClaim := { program := "ytoekhnppcakdnaa", sum := "d08a141f5daa60148a78a70eb71c430dd5b299b0d2c2368bf44294cedb2301aa", func := "offprint/offprintlaw10.PredParts", spec := "predParts", unfollowed := true, recurses := true, apart := false, narrowed := true }
def PredPartsUptoSaid : Prop := predPartsUptoRow.holds Try.pinned (OpenSpec.upto predPartsSpec)

/-- 'offprintlaw16.PredwireReads', WHERE WHAT IT READS IS OF BULK AT MOST 1048576: true; the input reads as it did. -/
def predwireReadsUptoRow : OpenClaim := { program := "ytoekhnppcakdnaa", sum := "d08a141f5daa60148a78a70eb71c430dd5b299b0d2c2368bf44294cedb2301aa", func := "offprint/offprintlaw16.PredwireReads", spec := "predwireReads", unfollowed := true, recurses := true, apart := false, narrowed := true }
def PredwireReadsUptoSaid : Prop := predwireReadsUptoRow.holds Try.pinned (OpenSpec.upto predwireReadsSpec)

/-- 'offprintlaw16.PredwireBack', WHERE WHAT IT READS IS OF BULK AT MOST 1048576: true; the input reads as it did. -/
def predwireBackUptoRow : OpenClaim := { program := "ytoekhnppcakdnaa", sum := "d08a141f5daa60148a78a70eb71c430dd5b299b0d2c2368bf44294cedb2301aa", func := "offprint/offprintlaw16.PredwireBack", spec := "predwireBack", unfollowed := true, recurses := true, apart := false, narrowed := true }
def PredwireBackUptoSaid : Prop := predwireBackUptoRow.holds Try.pinned (OpenSpec.upto predwireBackSpec)

/-- 'offprintlaw11.ParseTells', WHERE WHAT IT READS IS OF BULK AT MOST 1048576: true; the input reads as it did. -/
def parseTellsUptoRow : OpenClaim := { program := "ytoekhnppcakdnaa", sum := "d08a141f5daa60148a78a70eb71c430dd5b299b0d2c2368bf44294cedb2301aa", func := "offprint/offprintlaw11.ParseTells", spec := "parseTells", inPlace := ["internal/bytealg.IndexByteString"], unfollowed := true, recurses := true, apart := false, narrowed := true }
def ParseTellsUptoSaid : Prop := parseTellsUptoRow.holds Try.pinned (OpenSpec.upto parseTellsSpec)

/-- 'offprintlaw11.ParseBlanks', WHERE WHAT IT READS IS OF BULK AT MOST 1048576: true; the input reads as it did. -/
def parseBlanksUptoRow : OpenClaim := { program := "ytoekhnppcakdnaa", sum := "d08a141f5daa60148a78a70eb71c430dd5b299b0d2c2368bf44294cedb2301aa", func := "offprint/offprintlaw11.ParseBlanks", spec := "parseBlanks", inPlace := ["internal/bytealg.IndexByteString"], unfollowed := true, recurses := true, apart := false, narrowed := true }
def ParseBlanksUptoSaid : Prop := parseBlanksUptoRow.holds Try.pinned (OpenSpec.upto parseBlanksSpec)

/-- 'offprintlaw12.ShowTells', WHERE WHAT IT READS IS OF BULK AT MOST 1048576: true; the input reads as it did. -/
def showTellsUptoRow : OpenClaim := { program := "ytoekhnppcakdnaa", sum := "d08a141f5daa60148a78a70eb71c430dd5b299b0d2c2368bf44294cedb2301aa", func := "offprint/offprintlaw12.ShowTells", spec := "showTells", inPlace := ["internal/abi.NoEscape"], unfollowed := true, recurses := true, apart := false, narrowed := true }
def ShowTellsUptoSaid : Prop := showTellsUptoRow.holds Try.pinned (OpenSpec.upto showTellsSpec)

/-- 'offprintlaw12.ShowBack', WHERE WHAT IT READS IS OF BULK AT MOST 1048576: true; the input reads as it did. -/
def showBackUptoRow : OpenClaim := { program := "ytoekhnppcakdnaa", sum := "d08a141f5daa60148a78a70eb71c430dd5b299b0d2c2368bf44294cedb2301aa", func := "offprint/offprintlaw12.ShowBack", spec := "showBack", inPlace := ["internal/bytealg.IndexByteString"], unfollowed := true, recurses := true, apart := false, narrowed := true }
def ShowBackUptoSaid : Prop := showBackUptoRow.holds Try.pinned (OpenSpec.upto showBackSpec)

end Rows
end Go.Proofs.Ytoekhnppcakdnaa
