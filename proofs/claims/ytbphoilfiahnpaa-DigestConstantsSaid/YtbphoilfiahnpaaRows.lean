/-
  No cell of these rows narrows 'for every input' (looked for: loops, veiled, ifaces, maps, wideKeys, modest, calm, conditions, laid).
  DERIVED. THE GIVEN ROWS OF THIS SEAT. 17 by the template 'for every input the law returns true; each argument reads behind the call as it read before'; 0 by the template 'total and deterministic' (their statements: YtbphoilfiahnpaaTotals.lean).
  GIVEN WITH THE SEED: the statements are not yours to turn. If you find one false, say at which input.
  Laid BY PROGRAM, IN A SANDBOX (cutbox-rows.mjs): the forced cells as the released guide's own fill.sh prints them over the translation a28ce19572ce0611… (all of the seat's roots in one cut). By AI agents, Wed Nov 11 2026. No macro, syntax, notation, axiom, sorry.
-/
import Derived.Test.YtbphoilfiahnpaaChecked
import GoSem.Claim
import GoSem.ClaimJoined
import GoSem.ClaimMapViews
import Derived.JoinedTies
import Derived.KernelRfl
namespace Go.Proofs.Ytbphoilfiahnpaa
/- THE CELL 'sum', in the pinned program and in every row, IS THE sha256 OF THE DUMP (.gsa) THAT YtbphoilfiahnpaaProg.lean LOADS. Nothing in Lean hashes anything: it is a label: what it is worth is what the hold of that sum in a sandbox is worth. -/
noncomputable def Try.pinned : Pinned := { name := "ytbphoilfiahnpaa", sum := "a28ce19572ce0611573b6ad2d5a6442ecf76f1b21df395577f67ca7715993b6b", checked := Try.checked }
namespace Rows
def none {H : Type} : Left H := { results := [], args := [] }

/-- 'citadellaw04.DigestConstants': WHATEVER THE INPUT: true; the input reads as it did. -/
def digestConstantsSpec : ChangeSpec := { name := "digestConstants", fn := fun _ => fun
  | [d] => { results := [.lit (.bool true)], args := [d] }
  | _ => none }
def digestConstantsRow : OpenClaim := { program := "ytbphoilfiahnpaa", sum := "a28ce19572ce0611573b6ad2d5a6442ecf76f1b21df395577f67ca7715993b6b", func := "citadel/citadellaw04.DigestConstants", spec := "digestConstants", apart := false }
def DigestConstantsSaid : Prop := digestConstantsRow.holds Try.pinned (OpenSpec.ofChange digestConstantsSpec)

/-- ITS FALSE NEIGHBOUR: 'it returns false'. Refute it at one input. -/
def digestConstantsWrong : ChangeSpec := { name := "digestConstants", fn := fun _ => fun
  | [d] => { results := [.lit (.bool false)], args := [d] }
  | _ => none }
def DigestConstantsWrongFalsely : Prop := digestConstantsRow.holds Try.pinned (OpenSpec.ofChange digestConstantsWrong)

/-- 'citadellaw04.DigestPad': WHATEVER THE INPUT: true; the input reads as it did. -/
def digestPadSpec : ChangeSpec := { name := "digestPad", fn := fun _ => fun
  | [d] => { results := [.lit (.bool true)], args := [d] }
  | _ => none }
def digestPadRow : OpenClaim := { program := "ytbphoilfiahnpaa", sum := "a28ce19572ce0611573b6ad2d5a6442ecf76f1b21df395577f67ca7715993b6b", func := "citadel/citadellaw04.DigestPad", spec := "digestPad", apart := false }
def DigestPadSaid : Prop := digestPadRow.holds Try.pinned (OpenSpec.ofChange digestPadSpec)

/-- ITS FALSE NEIGHBOUR: 'it returns false'. Refute it at one input. -/
def digestPadWrong : ChangeSpec := { name := "digestPad", fn := fun _ => fun
  | [d] => { results := [.lit (.bool false)], args := [d] }
  | _ => none }
def DigestPadWrongFalsely : Prop := digestPadRow.holds Try.pinned (OpenSpec.ofChange digestPadWrong)

/-- 'citadellaw04.DigestSchedule': WHATEVER THE INPUT: true; the input reads as it did. -/
def digestScheduleSpec : ChangeSpec := { name := "digestSchedule", fn := fun _ => fun
  | [d] => { results := [.lit (.bool true)], args := [d] }
  | _ => none }
def digestScheduleRow : OpenClaim := { program := "ytbphoilfiahnpaa", sum := "a28ce19572ce0611573b6ad2d5a6442ecf76f1b21df395577f67ca7715993b6b", func := "citadel/citadellaw04.DigestSchedule", spec := "digestSchedule", apart := false }
def DigestScheduleSaid : Prop := digestScheduleRow.holds Try.pinned (OpenSpec.ofChange digestScheduleSpec)

/-- ITS FALSE NEIGHBOUR: 'it returns false'. Refute it at one input. -/
def digestScheduleWrong : ChangeSpec := { name := "digestSchedule", fn := fun _ => fun
  | [d] => { results := [.lit (.bool false)], args := [d] }
  | _ => none }
def DigestScheduleWrongFalsely : Prop := digestScheduleRow.holds Try.pinned (OpenSpec.ofChange digestScheduleWrong)

/-- 'citadellaw04.DigestWords': WHATEVER THE INPUT: true; the input reads as it did. -/
def digestWordsSpec : ChangeSpec := { name := "digestWords", fn := fun _ => fun
  | [d1, d2] => { results := [.lit (.bool true)], args := [d1, d2] }
  | _ => none }
def digestWordsRow : OpenClaim := { program := "ytbphoilfiahnpaa", sum := "a28ce19572ce0611573b6ad2d5a6442ecf76f1b21df395577f67ca7715993b6b", func := "citadel/citadellaw04.DigestWords", spec := "digestWords", apart := false }
def DigestWordsSaid : Prop := digestWordsRow.holds Try.pinned (OpenSpec.ofChange digestWordsSpec)

/-- ITS FALSE NEIGHBOUR: 'it returns false'. Refute it at one input. -/
def digestWordsWrong : ChangeSpec := { name := "digestWords", fn := fun _ => fun
  | [d1, d2] => { results := [.lit (.bool false)], args := [d1, d2] }
  | _ => none }
def DigestWordsWrongFalsely : Prop := digestWordsRow.holds Try.pinned (OpenSpec.ofChange digestWordsWrong)

/-- 'citadellaw04.DigestTake': WHATEVER THE INPUT: true; the input reads as it did. -/
def digestTakeSpec : ChangeSpec := { name := "digestTake", fn := fun _ => fun
  | [d1, d2] => { results := [.lit (.bool true)], args := [d1, d2] }
  | _ => none }
def digestTakeRow : OpenClaim := { program := "ytbphoilfiahnpaa", sum := "a28ce19572ce0611573b6ad2d5a6442ecf76f1b21df395577f67ca7715993b6b", func := "citadel/citadellaw04.DigestTake", spec := "digestTake", apart := false }
def DigestTakeSaid : Prop := digestTakeRow.holds Try.pinned (OpenSpec.ofChange digestTakeSpec)

/-- ITS FALSE NEIGHBOUR: 'it returns false'. Refute it at one input. -/
def digestTakeWrong : ChangeSpec := { name := "digestTake", fn := fun _ => fun
  | [d1, d2] => { results := [.lit (.bool false)], args := [d1, d2] }
  | _ => none }
def DigestTakeWrongFalsely : Prop := digestTakeRow.holds Try.pinned (OpenSpec.ofChange digestTakeWrong)

/-- 'citadellaw04.DigestOf': WHATEVER THE INPUT: true; the input reads as it did. -/
def digestOfSpec : ChangeSpec := { name := "digestOf", fn := fun _ => fun
  | [d] => { results := [.lit (.bool true)], args := [d] }
  | _ => none }
def digestOfRow : OpenClaim := { program := "ytbphoilfiahnpaa", sum := "a28ce19572ce0611573b6ad2d5a6442ecf76f1b21df395577f67ca7715993b6b", func := "citadel/citadellaw04.DigestOf", spec := "digestOf", unfollowed := true, recurses := true, apart := false }
def DigestOfSaid : Prop := digestOfRow.holds Try.pinned (OpenSpec.ofChange digestOfSpec)

/-- ITS FALSE NEIGHBOUR: 'it returns false'. Refute it at one input. -/
def digestOfWrong : ChangeSpec := { name := "digestOf", fn := fun _ => fun
  | [d] => { results := [.lit (.bool false)], args := [d] }
  | _ => none }
def DigestOfWrongFalsely : Prop := digestOfRow.holds Try.pinned (OpenSpec.ofChange digestOfWrong)

/-- 'citadellaw04.DigestParts': WHATEVER THE INPUT: true; the input reads as it did. -/
def digestPartsSpec : ChangeSpec := { name := "digestParts", fn := fun _ => fun
  | [d1, d2, d3] => { results := [.lit (.bool true)], args := [d1, d2, d3] }
  | _ => none }
def digestPartsRow : OpenClaim := { program := "ytbphoilfiahnpaa", sum := "a28ce19572ce0611573b6ad2d5a6442ecf76f1b21df395577f67ca7715993b6b", func := "citadel/citadellaw04.DigestParts", spec := "digestParts", unfollowed := true, recurses := true, apart := false }
def DigestPartsSaid : Prop := digestPartsRow.holds Try.pinned (OpenSpec.ofChange digestPartsSpec)

/-- ITS FALSE NEIGHBOUR: 'it returns false'. Refute it at one input. -/
def digestPartsWrong : ChangeSpec := { name := "digestParts", fn := fun _ => fun
  | [d1, d2, d3] => { results := [.lit (.bool false)], args := [d1, d2, d3] }
  | _ => none }
def DigestPartsWrongFalsely : Prop := digestPartsRow.holds Try.pinned (OpenSpec.ofChange digestPartsWrong)

/-- 'citadellaw04.DigestPieces': WHATEVER THE INPUT: true; the input reads as it did. -/
def digestPiecesSpec : ChangeSpec := { name := "digestPieces", fn := fun _ => fun
  | [d1, d2] => { results := [.lit (.bool true)], args := [d1, d2] }
  | _ => none }
def digestPiecesRow : OpenClaim := { program := "ytbphoilfiahnpaa", sum := "a28ce19572ce0611573b6ad2d5a6442ecf76f1b21df395577f67ca7715993b6b", func := "citadel/citadellaw04.DigestPieces", spec := "digestPieces", unfollowed := true, recurses := true, apart := false }
def DigestPiecesSaid : Prop := digestPiecesRow.holds Try.pinned (OpenSpec.ofChange digestPiecesSpec)

/-- ITS FALSE NEIGHBOUR: 'it returns false'. Refute it at one input. -/
def digestPiecesWrong : ChangeSpec := { name := "digestPieces", fn := fun _ => fun
  | [d1, d2] => { results := [.lit (.bool false)], args := [d1, d2] }
  | _ => none }
def DigestPiecesWrongFalsely : Prop := digestPiecesRow.holds Try.pinned (OpenSpec.ofChange digestPiecesWrong)

/-- 'citadellaw04.DigestChains': WHATEVER THE INPUT: true; the input reads as it did. -/
def digestChainsSpec : ChangeSpec := { name := "digestChains", fn := fun _ => fun
  | [d] => { results := [.lit (.bool true)], args := [d] }
  | _ => none }
def digestChainsRow : OpenClaim := { program := "ytbphoilfiahnpaa", sum := "a28ce19572ce0611573b6ad2d5a6442ecf76f1b21df395577f67ca7715993b6b", func := "citadel/citadellaw04.DigestChains", spec := "digestChains", unfollowed := true, recurses := true, apart := false }
def DigestChainsSaid : Prop := digestChainsRow.holds Try.pinned (OpenSpec.ofChange digestChainsSpec)

/-- ITS FALSE NEIGHBOUR: 'it returns false'. Refute it at one input. -/
def digestChainsWrong : ChangeSpec := { name := "digestChains", fn := fun _ => fun
  | [d] => { results := [.lit (.bool false)], args := [d] }
  | _ => none }
def DigestChainsWrongFalsely : Prop := digestChainsRow.holds Try.pinned (OpenSpec.ofChange digestChainsWrong)

/-- 'citadellaw05.MacEqual': WHATEVER THE INPUT: true; the input reads as it did. -/
def macEqualSpec : ChangeSpec := { name := "macEqual", fn := fun _ => fun
  | [d1, d2, d3] => { results := [.lit (.bool true)], args := [d1, d2, d3] }
  | _ => none }
def macEqualRow : OpenClaim := { program := "ytbphoilfiahnpaa", sum := "a28ce19572ce0611573b6ad2d5a6442ecf76f1b21df395577f67ca7715993b6b", func := "citadel/citadellaw05.MacEqual", spec := "macEqual", apart := false }
def MacEqualSaid : Prop := macEqualRow.holds Try.pinned (OpenSpec.ofChange macEqualSpec)

/-- ITS FALSE NEIGHBOUR: 'it returns false'. Refute it at one input. -/
def macEqualWrong : ChangeSpec := { name := "macEqual", fn := fun _ => fun
  | [d1, d2, d3] => { results := [.lit (.bool false)], args := [d1, d2, d3] }
  | _ => none }
def MacEqualWrongFalsely : Prop := macEqualRow.holds Try.pinned (OpenSpec.ofChange macEqualWrong)

/-- 'citadellaw05.MacPiece': WHATEVER THE INPUT: true; the input reads as it did. -/
def macPieceSpec : ChangeSpec := { name := "macPiece", fn := fun _ => fun
  | [d] => { results := [.lit (.bool true)], args := [d] }
  | _ => none }
def macPieceRow : OpenClaim := { program := "ytbphoilfiahnpaa", sum := "a28ce19572ce0611573b6ad2d5a6442ecf76f1b21df395577f67ca7715993b6b", func := "citadel/citadellaw05.MacPiece", spec := "macPiece", unfollowed := true, recurses := true, apart := false }
def MacPieceSaid : Prop := macPieceRow.holds Try.pinned (OpenSpec.ofChange macPieceSpec)

/-- ITS FALSE NEIGHBOUR: 'it returns false'. Refute it at one input. -/
def macPieceWrong : ChangeSpec := { name := "macPiece", fn := fun _ => fun
  | [d] => { results := [.lit (.bool false)], args := [d] }
  | _ => none }
def MacPieceWrongFalsely : Prop := macPieceRow.holds Try.pinned (OpenSpec.ofChange macPieceWrong)

/-- 'citadellaw05.MacTag': WHATEVER THE INPUT: true; the input reads as it did. -/
def macTagSpec : ChangeSpec := { name := "macTag", fn := fun _ => fun
  | [d1, d2] => { results := [.lit (.bool true)], args := [d1, d2] }
  | _ => none }
def macTagRow : OpenClaim := { program := "ytbphoilfiahnpaa", sum := "a28ce19572ce0611573b6ad2d5a6442ecf76f1b21df395577f67ca7715993b6b", func := "citadel/citadellaw05.MacTag", spec := "macTag", unfollowed := true, recurses := true, apart := false }
def MacTagSaid : Prop := macTagRow.holds Try.pinned (OpenSpec.ofChange macTagSpec)

/-- ITS FALSE NEIGHBOUR: 'it returns false'. Refute it at one input. -/
def macTagWrong : ChangeSpec := { name := "macTag", fn := fun _ => fun
  | [d1, d2] => { results := [.lit (.bool false)], args := [d1, d2] }
  | _ => none }
def MacTagWrongFalsely : Prop := macTagRow.holds Try.pinned (OpenSpec.ofChange macTagWrong)

/-- 'citadellaw05.MacParted': WHATEVER THE INPUT: true; the input reads as it did. -/
def macPartedSpec : ChangeSpec := { name := "macParted", fn := fun _ => fun
  | [d] => { results := [.lit (.bool true)], args := [d] }
  | _ => none }
def macPartedRow : OpenClaim := { program := "ytbphoilfiahnpaa", sum := "a28ce19572ce0611573b6ad2d5a6442ecf76f1b21df395577f67ca7715993b6b", func := "citadel/citadellaw05.MacParted", spec := "macParted", unfollowed := true, recurses := true, apart := false }
def MacPartedSaid : Prop := macPartedRow.holds Try.pinned (OpenSpec.ofChange macPartedSpec)

/-- ITS FALSE NEIGHBOUR: 'it returns false'. Refute it at one input. -/
def macPartedWrong : ChangeSpec := { name := "macParted", fn := fun _ => fun
  | [d] => { results := [.lit (.bool false)], args := [d] }
  | _ => none }
def MacPartedWrongFalsely : Prop := macPartedRow.holds Try.pinned (OpenSpec.ofChange macPartedWrong)

/-- 'citadellaw05.MacKeys': WHATEVER THE INPUT: true; the input reads as it did. -/
def macKeysSpec : ChangeSpec := { name := "macKeys", fn := fun _ => fun
  | [d1, d2] => { results := [.lit (.bool true)], args := [d1, d2] }
  | _ => none }
def macKeysRow : OpenClaim := { program := "ytbphoilfiahnpaa", sum := "a28ce19572ce0611573b6ad2d5a6442ecf76f1b21df395577f67ca7715993b6b", func := "citadel/citadellaw05.MacKeys", spec := "macKeys", unfollowed := true, recurses := true, apart := false }
def MacKeysSaid : Prop := macKeysRow.holds Try.pinned (OpenSpec.ofChange macKeysSpec)

/-- ITS FALSE NEIGHBOUR: 'it returns false'. Refute it at one input. -/
def macKeysWrong : ChangeSpec := { name := "macKeys", fn := fun _ => fun
  | [d1, d2] => { results := [.lit (.bool false)], args := [d1, d2] }
  | _ => none }
def MacKeysWrongFalsely : Prop := macKeysRow.holds Try.pinned (OpenSpec.ofChange macKeysWrong)

/-- 'citadellaw05.MacStream': WHATEVER THE INPUT: true; the input reads as it did. -/
def macStreamSpec : ChangeSpec := { name := "macStream", fn := fun _ => fun
  | [d1, d2, d3] => { results := [.lit (.bool true)], args := [d1, d2, d3] }
  | _ => none }
def macStreamRow : OpenClaim := { program := "ytbphoilfiahnpaa", sum := "a28ce19572ce0611573b6ad2d5a6442ecf76f1b21df395577f67ca7715993b6b", func := "citadel/citadellaw05.MacStream", spec := "macStream", unfollowed := true, recurses := true, apart := false }
def MacStreamSaid : Prop := macStreamRow.holds Try.pinned (OpenSpec.ofChange macStreamSpec)

/-- ITS FALSE NEIGHBOUR: 'it returns false'. Refute it at one input. -/
def macStreamWrong : ChangeSpec := { name := "macStream", fn := fun _ => fun
  | [d1, d2, d3] => { results := [.lit (.bool false)], args := [d1, d2, d3] }
  | _ => none }
def MacStreamWrongFalsely : Prop := macStreamRow.holds Try.pinned (OpenSpec.ofChange macStreamWrong)

/-- 'citadellaw05.MacDerives': WHATEVER THE INPUT: true; the input reads as it did. -/
def macDerivesSpec : ChangeSpec := { name := "macDerives", fn := fun _ => fun
  | [d1, d2, d3] => { results := [.lit (.bool true)], args := [d1, d2, d3] }
  | _ => none }
def macDerivesRow : OpenClaim := { program := "ytbphoilfiahnpaa", sum := "a28ce19572ce0611573b6ad2d5a6442ecf76f1b21df395577f67ca7715993b6b", func := "citadel/citadellaw05.MacDerives", spec := "macDerives", unfollowed := true, recurses := true, apart := false }
def MacDerivesSaid : Prop := macDerivesRow.holds Try.pinned (OpenSpec.ofChange macDerivesSpec)

/-- ITS FALSE NEIGHBOUR: 'it returns false'. Refute it at one input. -/
def macDerivesWrong : ChangeSpec := { name := "macDerives", fn := fun _ => fun
  | [d1, d2, d3] => { results := [.lit (.bool false)], args := [d1, d2, d3] }
  | _ => none }
def MacDerivesWrongFalsely : Prop := macDerivesRow.holds Try.pinned (OpenSpec.ofChange macDerivesWrong)

/-- 'citadellaw05.MacLonger': WHATEVER THE INPUT: true; the input reads as it did. -/
def macLongerSpec : ChangeSpec := { name := "macLonger", fn := fun _ => fun
  | [d] => { results := [.lit (.bool true)], args := [d] }
  | _ => none }
def macLongerRow : OpenClaim := { program := "ytbphoilfiahnpaa", sum := "a28ce19572ce0611573b6ad2d5a6442ecf76f1b21df395577f67ca7715993b6b", func := "citadel/citadellaw05.MacLonger", spec := "macLonger", unfollowed := true, recurses := true, apart := false }
def MacLongerSaid : Prop := macLongerRow.holds Try.pinned (OpenSpec.ofChange macLongerSpec)

/-- ITS FALSE NEIGHBOUR: 'it returns false'. Refute it at one input. -/
def macLongerWrong : ChangeSpec := { name := "macLonger", fn := fun _ => fun
  | [d] => { results := [.lit (.bool false)], args := [d] }
  | _ => none }
def MacLongerWrongFalsely : Prop := macLongerRow.holds Try.pinned (OpenSpec.ofChange macLongerWrong)

/- THE SECOND FORM. 'bulk': how many values and letters a reading holds, each counted each time it is reached (what is shared counts as often as it is met; a slice's spare places count too). A statement '..UptoSaid' is the law's where the arguments, and the package variables that the reading takes, are together of bulk at most 1048576: NARROWER than '..Said'. Prove '..Said' where nothing that the law and all that it calls make is longer than what came in: it says more and counts as full. Else prove '..UptoSaid'. A law counts once. -/
mutual
def uptoBulk {H : Type} : DataW H → Nat
  | .lit (.string bytes) => bytes.length + 1
  | .lit _ => 1
  | .nil => 1
  | .ptr d => uptoBulk d + 1
  | .slice elems spare => uptoBulkAll elems + uptoBulkAll spare + 1
  | .agg parts => uptoBulkAll parts + 1
  | .iface _ d => uptoBulk d + 1
  | .map entries => uptoBulkEntries entries + 1
  | .held _ => 1
def uptoBulkAll {H : Type} : List (DataW H) → Nat
  | [] => 0
  | d :: r => uptoBulk d + uptoBulkAll r
def uptoBulkEntries {H : Type} : List (Lit × DataW H) → Nat
  | [] => 0
  | x :: r => uptoBulkEntry x + uptoBulkEntries r
def uptoBulkEntry {H : Type} : Lit × DataW H → Nat
  | (.string bytes, d) => bytes.length + uptoBulk d + 1
  | (_, d) => uptoBulk d + 1
 end
def uptoSmall : (H : Type) → List (DataW H) → Bool := fun _ ds => decide (uptoBulkAll ds ≤ 1048576)
def OpenSpec.upto (s : _root_.Go.ChangeSpec) : _root_.Go.OpenSpec := { _root_.Go.OpenSpec.ofChange s with cond := some uptoSmall }

/-- 'citadellaw04.DigestConstants', WHERE WHAT IT READS IS OF BULK AT MOST 1048576: true; the input reads as it did. -/
def digestConstantsUptoRow : OpenClaim := { program := "ytbphoilfiahnpaa", sum := "a28ce19572ce0611573b6ad2d5a6442ecf76f1b21df395577f67ca7715993b6b", func := "citadel/citadellaw04.DigestConstants", spec := "digestConstants", apart := false, narrowed := true }
def DigestConstantsUptoSaid : Prop := digestConstantsUptoRow.holds Try.pinned (OpenSpec.upto digestConstantsSpec)

/-- 'citadellaw04.DigestPad', WHERE WHAT IT READS IS OF BULK AT MOST 1048576: true; the input reads as it did. -/
def digestPadUptoRow : OpenClaim := { program := "ytbphoilfiahnpaa", sum := "a28ce19572ce0611573b6ad2d5a6442ecf76f1b21df395577f67ca7715993b6b", func := "citadel/citadellaw04.DigestPad", spec := "digestPad", apart := false, narrowed := true }
def DigestPadUptoSaid : Prop := digestPadUptoRow.holds Try.pinned (OpenSpec.upto digestPadSpec)

/-- 'citadellaw04.DigestSchedule', WHERE WHAT IT READS IS OF BULK AT MOST 1048576: true; the input reads as it did. -/
def digestScheduleUptoRow : OpenClaim := { program := "ytbphoilfiahnpaa", sum := "a28ce19572ce0611573b6ad2d5a6442ecf76f1b21df395577f67ca7715993b6b", func := "citadel/citadellaw04.DigestSchedule", spec := "digestSchedule", apart := false, narrowed := true }
def DigestScheduleUptoSaid : Prop := digestScheduleUptoRow.holds Try.pinned (OpenSpec.upto digestScheduleSpec)

/-- 'citadellaw04.DigestWords', WHERE WHAT IT READS IS OF BULK AT MOST 1048576: true; the input reads as it did. -/
def digestWordsUptoRow : OpenClaim := { program := "ytbphoilfiahnpaa", sum := "a28ce19572ce0611573b6ad2d5a6442ecf76f1b21df395577f67ca7715993b6b", func := "citadel/citadellaw04.DigestWords", spec := "digestWords", apart := false, narrowed := true }
def DigestWordsUptoSaid : Prop := digestWordsUptoRow.holds Try.pinned (OpenSpec.upto digestWordsSpec)

/-- 'citadellaw04.DigestTake', WHERE WHAT IT READS IS OF BULK AT MOST 1048576: true; the input reads as it did. -/
def digestTakeUptoRow : OpenClaim := { program := "ytbphoilfiahnpaa", sum := "a28ce19572ce0611573b6ad2d5a6442ecf76f1b21df395577f67ca7715993b6b", func := "citadel/citadellaw04.DigestTake", spec := "digestTake", apart := false, narrowed := true }
def DigestTakeUptoSaid : Prop := digestTakeUptoRow.holds Try.pinned (OpenSpec.upto digestTakeSpec)

/-- 'citadellaw04.DigestOf', WHERE WHAT IT READS IS OF BULK AT MOST 1048576: true; the input reads as it did. -/
def digestOfUptoRow : OpenClaim := { program := "ytbphoilfiahnpaa", sum := "a28ce19572ce0611573b6ad2d5a6442ecf76f1b21df395577f67ca7715993b6b", func := "citadel/citadellaw04.DigestOf", spec := "digestOf", unfollowed := true, recurses := true, apart := false, narrowed := true }
def DigestOfUptoSaid : Prop := digestOfUptoRow.holds Try.pinned (OpenSpec.upto digestOfSpec)

/-- 'citadellaw04.DigestParts', WHERE WHAT IT READS IS OF BULK AT MOST 1048576: true; the input reads as it did. -/
def digestPartsUptoRow : OpenClaim := { program := "ytbphoilfiahnpaa", sum := "a28ce19572ce0611573b6ad2d5a6442ecf76f1b21df395577f67ca7715993b6b", func := "citadel/citadellaw04.DigestParts", spec := "digestParts", unfollowed := true, recurses := true, apart := false, narrowed := true }
def DigestPartsUptoSaid : Prop := digestPartsUptoRow.holds Try.pinned (OpenSpec.upto digestPartsSpec)

/-- 'citadellaw04.DigestPieces', WHERE WHAT IT READS IS OF BULK AT MOST 1048576: true; the input reads as it did. -/
def digestPiecesUptoRow : OpenClaim := { program := "ytbphoilfiahnpaa", sum := "a28ce19572ce0611573b6ad2d5a6442ecf76f1b21df395577f67ca7715993b6b", func := "citadel/citadellaw04.DigestPieces", spec := "digestPieces", unfollowed := true, recurses := true, apart := false, narrowed := true }
def DigestPiecesUptoSaid : Prop := digestPiecesUptoRow.holds Try.pinned (OpenSpec.upto digestPiecesSpec)

/-- 'citadellaw04.DigestChains', WHERE WHAT IT READS IS OF BULK AT MOST 1048576: true; the input reads as it did. -/
def digestChainsUptoRow : OpenClaim := { program := "ytbphoilfiahnpaa", sum := "a28ce19572ce0611573b6ad2d5a6442ecf76f1b21df395577f67ca7715993b6b", func := "citadel/citadellaw04.DigestChains", spec := "digestChains", unfollowed := true, recurses := true, apart := false, narrowed := true }
def DigestChainsUptoSaid : Prop := digestChainsUptoRow.holds Try.pinned (OpenSpec.upto digestChainsSpec)

/-- 'citadellaw05.MacEqual', WHERE WHAT IT READS IS OF BULK AT MOST 1048576: true; the input reads as it did. -/
def macEqualUptoRow : OpenClaim := { program := "ytbphoilfiahnpaa", sum := "a28ce19572ce0611573b6ad2d5a6442ecf76f1b21df395577f67ca7715993b6b", func := "citadel/citadellaw05.MacEqual", spec := "macEqual", apart := false, narrowed := true }
def MacEqualUptoSaid : Prop := macEqualUptoRow.holds Try.pinned (OpenSpec.upto macEqualSpec)

/-- 'citadellaw05.MacPiece', WHERE WHAT IT READS IS OF BULK AT MOST 1048576: true; the input reads as it did. -/
def macPieceUptoRow : OpenClaim := { program := "ytbphoilfiahnpaa", sum := "a28ce19572ce0611573b6ad2d5a6442ecf76f1b21df395577f67ca7715993b6b", func := "citadel/citadellaw05.MacPiece", spec := "macPiece", unfollowed := true, recurses := true, apart := false, narrowed := true }
def MacPieceUptoSaid : Prop := macPieceUptoRow.holds Try.pinned (OpenSpec.upto macPieceSpec)

/-- 'citadellaw05.MacTag', WHERE WHAT IT READS IS OF BULK AT MOST 1048576: true; the input reads as it did. -/
def macTagUptoRow : OpenClaim := { program := "ytbphoilfiahnpaa", sum := "a28ce19572ce0611573b6ad2d5a6442ecf76f1b21df395577f67ca7715993b6b", func := "citadel/citadellaw05.MacTag", spec := "macTag", unfollowed := true, recurses := true, apart := false, narrowed := true }
def MacTagUptoSaid : Prop := macTagUptoRow.holds Try.pinned (OpenSpec.upto macTagSpec)

/-- 'citadellaw05.MacParted', WHERE WHAT IT READS IS OF BULK AT MOST 1048576: true; the input reads as it did. -/
def macPartedUptoRow : OpenClaim := { program := "ytbphoilfiahnpaa", sum := "a28ce19572ce0611573b6ad2d5a6442ecf76f1b21df395577f67ca7715993b6b", func := "citadel/citadellaw05.MacParted", spec := "macParted", unfollowed := true, recurses := true, apart := false, narrowed := true }
def MacPartedUptoSaid : Prop := macPartedUptoRow.holds Try.pinned (OpenSpec.upto macPartedSpec)

/-- 'citadellaw05.MacKeys', WHERE WHAT IT READS IS OF BULK AT MOST 1048576: true; the input reads as it did. -/
def macKeysUptoRow : OpenClaim := { program := "ytbphoilfiahnpaa", sum := "a28ce19572ce0611573b6ad2d5a6442ecf76f1b21df395577f67ca7715993b6b", func := "citadel/citadellaw05.MacKeys", spec := "macKeys", unfollowed := true, recurses := true, apart := false, narrowed := true }
def MacKeysUptoSaid : Prop := macKeysUptoRow.holds Try.pinned (OpenSpec.upto macKeysSpec)

/-- 'citadellaw05.MacStream', WHERE WHAT IT READS IS OF BULK AT MOST 1048576: true; the input reads as it did. -/
def macStreamUptoRow : OpenClaim := { program := "ytbphoilfiahnpaa", sum := "a28ce19572ce0611573b6ad2d5a6442ecf76f1b21df395577f67ca7715993b6b", func := "citadel/citadellaw05.MacStream", spec := "macStream", unfollowed := true, recurses := true, apart := false, narrowed := true }
def MacStreamUptoSaid : Prop := macStreamUptoRow.holds Try.pinned (OpenSpec.upto macStreamSpec)

/-- 'citadellaw05.MacDerives', WHERE WHAT IT READS IS OF BULK AT MOST 1048576: true; the input reads as it did. -/
def macDerivesUptoRow : OpenClaim := { program := "ytbphoilfiahnpaa", sum := "a28ce19572ce0611573b6ad2d5a6442ecf76f1b21df395577f67ca7715993b6b", func := "citadel/citadellaw05.MacDerives", spec := "macDerives", unfollowed := true, recurses := true, apart := false, narrowed := true }
def MacDerivesUptoSaid : Prop := macDerivesUptoRow.holds Try.pinned (OpenSpec.upto macDerivesSpec)

/-- 'citadellaw05.MacLonger', WHERE WHAT IT READS IS OF BULK AT MOST 1048576: true; the input reads as it did. -/
def macLongerUptoRow : OpenClaim := { program := "ytbphoilfiahnpaa", sum := "a28ce19572ce0611573b6ad2d5a6442ecf76f1b21df395577f67ca7715993b6b", func := "citadel/citadellaw05.MacLonger", spec := "macLonger", unfollowed := true, recurses := true, apart := false, narrowed := true }
def MacLongerUptoSaid : Prop := macLongerUptoRow.holds Try.pinned (OpenSpec.upto macLongerSpec)

end Rows
end Go.Proofs.Ytbphoilfiahnpaa
