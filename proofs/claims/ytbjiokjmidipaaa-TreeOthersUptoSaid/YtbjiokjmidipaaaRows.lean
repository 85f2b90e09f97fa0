/-
  No cell of these rows narrows 'for every input' (looked for: loops, veiled, ifaces, maps, wideKeys, modest, calm, conditions, laid).
  DERIVED. THE GIVEN ROWS OF THIS SEAT. 15 by the template 'for every input the law returns true; each argument reads behind the call as it read before'; 0 by the template 'total and deterministic' (their statements: YtbjiokjmidipaaaTotals.lean).
  GIVEN WITH THE SEED: the statements are not yours to turn. If you find one false, say at which input.
  Laid BY PROGRAM, IN A SANDBOX (cutbox-rows.mjs): the forced cells as the released guide's own fill.sh prints them over the translation 7d71c42d4cf01f43… (all of the seat's roots in one cut). By AI agents, Wed Nov 11 2026. No macro, syntax, notation, axiom, sorry.
-/
import Derived.Test.YtbjiokjmidipaaaChecked
import GoSem.Claim
import GoSem.ClaimJoined
import GoSem.ClaimMapViews
import Derived.JoinedTies
import Derived.KernelRfl
namespace Go.Proofs.Ytbjiokjmidipaaa
/- THE CELL 'sum', in the pinned program and in every row, IS THE sha256 OF THE DUMP (.gsa) THAT YtbjiokjmidipaaaProg.lean LOADS. Nothing in Lean hashes anything: it is a label: what it is worth is what the hold of that sum in a sandbox is worth. -/
noncomputable def Try.pinned : Pinned := { name := "ytbjiokjmidipaaa", sum := "7d71c42d4cf01f430210947893b90ee75269947044a802b7943fc3050e68c1a0", checked := Try.checked }
namespace Rows
def none {H : Type} : Left H := { results := [], args := [] }

/-- 'citadellaw11.TreeBinds': WHATEVER THE INPUT: true; the input reads as it did. -/
def treeBindsSpec : ChangeSpec := { name := "treeBinds", fn := fun _ => fun
  | [d] => { results := [.lit (.bool true)], args := [d] }
  | _ => none }
def treeBindsRow : OpenClaim := { program := "ytbjiokjmidipaaa", sum := "7d71c42d4cf01f430210947893b90ee75269947044a802b7943fc3050e68c1a0", func := "citadel/citadellaw11.TreeBinds", spec := "treeBinds", unfollowed := true, recurses := true, apart := false }
def TreeBindsSaid : Prop := treeBindsRow.holds Try.pinned (OpenSpec.ofChange treeBindsSpec)

/-- ITS FALSE NEIGHBOUR: 'it returns false'. Refute it at one input. -/
def treeBindsWrong : ChangeSpec := { name := "treeBinds", fn := fun _ => fun
  | [d] => { results := [.lit (.bool false)], args := [d] }
  | _ => none }
def TreeBindsWrongFalsely : Prop := treeBindsRow.holds Try.pinned (OpenSpec.ofChange treeBindsWrong)

/-- 'citadellaw11.TreeBuilds': WHATEVER THE INPUT: true; the input reads as it did. -/
def treeBuildsSpec : ChangeSpec := { name := "treeBuilds", fn := fun _ => fun
  | [d1, d2] => { results := [.lit (.bool true)], args := [d1, d2] }
  | _ => none }
def treeBuildsRow : OpenClaim := { program := "ytbjiokjmidipaaa", sum := "7d71c42d4cf01f430210947893b90ee75269947044a802b7943fc3050e68c1a0", func := "citadel/citadellaw11.TreeBuilds", spec := "treeBuilds", unfollowed := true, recurses := true, apart := false }
def TreeBuildsSaid : Prop := treeBuildsRow.holds Try.pinned (OpenSpec.ofChange treeBuildsSpec)

/-- ITS FALSE NEIGHBOUR: 'it returns false'. Refute it at one input. -/
def treeBuildsWrong : ChangeSpec := { name := "treeBuilds", fn := fun _ => fun
  | [d1, d2] => { results := [.lit (.bool false)], args := [d1, d2] }
  | _ => none }
def TreeBuildsWrongFalsely : Prop := treeBuildsRow.holds Try.pinned (OpenSpec.ofChange treeBuildsWrong)

/-- 'citadellaw11.TreeHolds': WHATEVER THE INPUT: true; the input reads as it did. -/
def treeHoldsSpec : ChangeSpec := { name := "treeHolds", fn := fun _ => fun
  | [d] => { results := [.lit (.bool true)], args := [d] }
  | _ => none }
def treeHoldsRow : OpenClaim := { program := "ytbjiokjmidipaaa", sum := "7d71c42d4cf01f430210947893b90ee75269947044a802b7943fc3050e68c1a0", func := "citadel/citadellaw11.TreeHolds", spec := "treeHolds", unfollowed := true, recurses := true, apart := false }
def TreeHoldsSaid : Prop := treeHoldsRow.holds Try.pinned (OpenSpec.ofChange treeHoldsSpec)

/-- ITS FALSE NEIGHBOUR: 'it returns false'. Refute it at one input. -/
def treeHoldsWrong : ChangeSpec := { name := "treeHolds", fn := fun _ => fun
  | [d] => { results := [.lit (.bool false)], args := [d] }
  | _ => none }
def TreeHoldsWrongFalsely : Prop := treeHoldsRow.holds Try.pinned (OpenSpec.ofChange treeHoldsWrong)

/-- 'citadellaw11.TreeJoins': WHATEVER THE INPUT: true; the input reads as it did. -/
def treeJoinsSpec : ChangeSpec := { name := "treeJoins", fn := fun _ => fun
  | [d] => { results := [.lit (.bool true)], args := [d] }
  | _ => none }
def treeJoinsRow : OpenClaim := { program := "ytbjiokjmidipaaa", sum := "7d71c42d4cf01f430210947893b90ee75269947044a802b7943fc3050e68c1a0", func := "citadel/citadellaw11.TreeJoins", spec := "treeJoins", unfollowed := true, recurses := true, apart := false }
def TreeJoinsSaid : Prop := treeJoinsRow.holds Try.pinned (OpenSpec.ofChange treeJoinsSpec)

/-- ITS FALSE NEIGHBOUR: 'it returns false'. Refute it at one input. -/
def treeJoinsWrong : ChangeSpec := { name := "treeJoins", fn := fun _ => fun
  | [d] => { results := [.lit (.bool false)], args := [d] }
  | _ => none }
def TreeJoinsWrongFalsely : Prop := treeJoinsRow.holds Try.pinned (OpenSpec.ofChange treeJoinsWrong)

/-- 'citadellaw11.TreeLeaf': WHATEVER THE INPUT: true; the input reads as it did. -/
def treeLeafSpec : ChangeSpec := { name := "treeLeaf", fn := fun _ => fun
  | [d1, d2, d3] => { results := [.lit (.bool true)], args := [d1, d2, d3] }
  | _ => none }
def treeLeafRow : OpenClaim := { program := "ytbjiokjmidipaaa", sum := "7d71c42d4cf01f430210947893b90ee75269947044a802b7943fc3050e68c1a0", func := "citadel/citadellaw11.TreeLeaf", spec := "treeLeaf", unfollowed := true, recurses := true, apart := false }
def TreeLeafSaid : Prop := treeLeafRow.holds Try.pinned (OpenSpec.ofChange treeLeafSpec)

/-- ITS FALSE NEIGHBOUR: 'it returns false'. Refute it at one input. -/
def treeLeafWrong : ChangeSpec := { name := "treeLeaf", fn := fun _ => fun
  | [d1, d2, d3] => { results := [.lit (.bool false)], args := [d1, d2, d3] }
  | _ => none }
def TreeLeafWrongFalsely : Prop := treeLeafRow.holds Try.pinned (OpenSpec.ofChange treeLeafWrong)

/-- 'citadellaw11.TreeOthers': WHATEVER THE INPUT: true; the input reads as it did. -/
def treeOthersSpec : ChangeSpec := { name := "treeOthers", fn := fun _ => fun
  | [d] => { results := [.lit (.bool true)], args := [d] }
  | _ => none }
def treeOthersRow : OpenClaim := { program := "ytbjiokjmidipaaa", sum := "7d71c42d4cf01f430210947893b90ee75269947044a802b7943fc3050e68c1a0", func := "citadel/citadellaw11.TreeOthers", spec := "treeOthers", unfollowed := true, recurses := true, apart := false }
def TreeOthersSaid : Prop := treeOthersRow.holds Try.pinned (OpenSpec.ofChange treeOthersSpec)

/-- ITS FALSE NEIGHBOUR: 'it returns false'. Refute it at one input. -/
def treeOthersWrong : ChangeSpec := { name := "treeOthers", fn := fun _ => fun
  | [d] => { results := [.lit (.bool false)], args := [d] }
  | _ => none }
def TreeOthersWrongFalsely : Prop := treeOthersRow.holds Try.pinned (OpenSpec.ofChange treeOthersWrong)

/-- 'citadellaw11.TreePath': WHATEVER THE INPUT: true; the input reads as it did. -/
def treePathSpec : ChangeSpec := { name := "treePath", fn := fun _ => fun
  | [d1, d2] => { results := [.lit (.bool true)], args := [d1, d2] }
  | _ => none }
def treePathRow : OpenClaim := { program := "ytbjiokjmidipaaa", sum := "7d71c42d4cf01f430210947893b90ee75269947044a802b7943fc3050e68c1a0", func := "citadel/citadellaw11.TreePath", spec := "treePath", unfollowed := true, recurses := true, apart := false }
def TreePathSaid : Prop := treePathRow.holds Try.pinned (OpenSpec.ofChange treePathSpec)

/-- ITS FALSE NEIGHBOUR: 'it returns false'. Refute it at one input. -/
def treePathWrong : ChangeSpec := { name := "treePath", fn := fun _ => fun
  | [d1, d2] => { results := [.lit (.bool false)], args := [d1, d2] }
  | _ => none }
def TreePathWrongFalsely : Prop := treePathRow.holds Try.pinned (OpenSpec.ofChange treePathWrong)

/-- 'citadellaw11.TreeSectors': WHATEVER THE INPUT: true; the input reads as it did. -/
def treeSectorsSpec : ChangeSpec := { name := "treeSectors", fn := fun _ => fun
  | [d1, d2] => { results := [.lit (.bool true)], args := [d1, d2] }
  | _ => none }
def treeSectorsRow : OpenClaim := { program := "ytbjiokjmidipaaa", sum := "7d71c42d4cf01f430210947893b90ee75269947044a802b7943fc3050e68c1a0", func := "citadel/citadellaw11.TreeSectors", spec := "treeSectors", apart := false }
def TreeSectorsSaid : Prop := treeSectorsRow.holds Try.pinned (OpenSpec.ofChange treeSectorsSpec)

/-- ITS FALSE NEIGHBOUR: 'it returns false'. Refute it at one input. -/
def treeSectorsWrong : ChangeSpec := { name := "treeSectors", fn := fun _ => fun
  | [d1, d2] => { results := [.lit (.bool false)], args := [d1, d2] }
  | _ => none }
def TreeSectorsWrongFalsely : Prop := treeSectorsRow.holds Try.pinned (OpenSpec.ofChange treeSectorsWrong)

/-- 'citadellaw11.TreeTurns': WHATEVER THE INPUT: true; the input reads as it did. -/
def treeTurnsSpec : ChangeSpec := { name := "treeTurns", fn := fun _ => fun
  | [d] => { results := [.lit (.bool true)], args := [d] }
  | _ => none }
def treeTurnsRow : OpenClaim := { program := "ytbjiokjmidipaaa", sum := "7d71c42d4cf01f430210947893b90ee75269947044a802b7943fc3050e68c1a0", func := "citadel/citadellaw11.TreeTurns", spec := "treeTurns", unfollowed := true, recurses := true, apart := false }
def TreeTurnsSaid : Prop := treeTurnsRow.holds Try.pinned (OpenSpec.ofChange treeTurnsSpec)

/-- ITS FALSE NEIGHBOUR: 'it returns false'. Refute it at one input. -/
def treeTurnsWrong : ChangeSpec := { name := "treeTurns", fn := fun _ => fun
  | [d] => { results := [.lit (.bool false)], args := [d] }
  | _ => none }
def TreeTurnsWrongFalsely : Prop := treeTurnsRow.holds Try.pinned (OpenSpec.ofChange treeTurnsWrong)

/-- 'citadellaw16.ChapAnswers': WHATEVER THE INPUT: true; the input reads as it did. -/
def chapAnswersSpec : ChangeSpec := { name := "chapAnswers", fn := fun _ => fun
  | [d1, d2, d3] => { results := [.lit (.bool true)], args := [d1, d2, d3] }
  | _ => none }
def chapAnswersRow : OpenClaim := { program := "ytbjiokjmidipaaa", sum := "7d71c42d4cf01f430210947893b90ee75269947044a802b7943fc3050e68c1a0", func := "citadel/citadellaw16.ChapAnswers", spec := "chapAnswers", unfollowed := true, recurses := true, apart := false }
def ChapAnswersSaid : Prop := chapAnswersRow.holds Try.pinned (OpenSpec.ofChange chapAnswersSpec)

/-- ITS FALSE NEIGHBOUR: 'it returns false'. Refute it at one input. -/
def chapAnswersWrong : ChangeSpec := { name := "chapAnswers", fn := fun _ => fun
  | [d1, d2, d3] => { results := [.lit (.bool false)], args := [d1, d2, d3] }
  | _ => none }
def ChapAnswersWrongFalsely : Prop := chapAnswersRow.holds Try.pinned (OpenSpec.ofChange chapAnswersWrong)

/-- 'citadellaw16.ChapBound': WHATEVER THE INPUT: true; the input reads as it did. -/
def chapBoundSpec : ChangeSpec := { name := "chapBound", fn := fun _ => fun
  | [d1, d2] => { results := [.lit (.bool true)], args := [d1, d2] }
  | _ => none }
def chapBoundRow : OpenClaim := { program := "ytbjiokjmidipaaa", sum := "7d71c42d4cf01f430210947893b90ee75269947044a802b7943fc3050e68c1a0", func := "citadel/citadellaw16.ChapBound", spec := "chapBound", unfollowed := true, recurses := true, apart := false }
def ChapBoundSaid : Prop := chapBoundRow.holds Try.pinned (OpenSpec.ofChange chapBoundSpec)

/-- ITS FALSE NEIGHBOUR: 'it returns false'. Refute it at one input. -/
def chapBoundWrong : ChangeSpec := { name := "chapBound", fn := fun _ => fun
  | [d1, d2] => { results := [.lit (.bool false)], args := [d1, d2] }
  | _ => none }
def ChapBoundWrongFalsely : Prop := chapBoundRow.holds Try.pinned (OpenSpec.ofChange chapBoundWrong)

/-- 'citadellaw16.ChapDraws': WHATEVER THE INPUT: true; the input reads as it did. -/
def chapDrawsSpec : ChangeSpec := { name := "chapDraws", fn := fun _ => fun
  | [d1, d2, d3] => { results := [.lit (.bool true)], args := [d1, d2, d3] }
  | _ => none }
def chapDrawsRow : OpenClaim := { program := "ytbjiokjmidipaaa", sum := "7d71c42d4cf01f430210947893b90ee75269947044a802b7943fc3050e68c1a0", func := "citadel/citadellaw16.ChapDraws", spec := "chapDraws", unfollowed := true, recurses := true, apart := false }
def ChapDrawsSaid : Prop := chapDrawsRow.holds Try.pinned (OpenSpec.ofChange chapDrawsSpec)

/-- ITS FALSE NEIGHBOUR: 'it returns false'. Refute it at one input. -/
def chapDrawsWrong : ChangeSpec := { name := "chapDraws", fn := fun _ => fun
  | [d1, d2, d3] => { results := [.lit (.bool false)], args := [d1, d2, d3] }
  | _ => none }
def ChapDrawsWrongFalsely : Prop := chapDrawsRow.holds Try.pinned (OpenSpec.ofChange chapDrawsWrong)

/-- 'citadellaw16.ChapFresh': WHATEVER THE INPUT: true; the input reads as it did. -/
def chapFreshSpec : ChangeSpec := { name := "chapFresh", fn := fun _ => fun
  | [d1, d2, d3] => { results := [.lit (.bool true)], args := [d1, d2, d3] }
  | _ => none }
def chapFreshRow : OpenClaim := { program := "ytbjiokjmidipaaa", sum := "7d71c42d4cf01f430210947893b90ee75269947044a802b7943fc3050e68c1a0", func := "citadel/citadellaw16.ChapFresh", spec := "chapFresh", unfollowed := true, recurses := true, apart := false }
def ChapFreshSaid : Prop := chapFreshRow.holds Try.pinned (OpenSpec.ofChange chapFreshSpec)

/-- ITS FALSE NEIGHBOUR: 'it returns false'. Refute it at one input. -/
def chapFreshWrong : ChangeSpec := { name := "chapFresh", fn := fun _ => fun
  | [d1, d2, d3] => { results := [.lit (.bool false)], args := [d1, d2, d3] }
  | _ => none }
def ChapFreshWrongFalsely : Prop := chapFreshRow.holds Try.pinned (OpenSpec.ofChange chapFreshWrong)

/-- 'citadellaw16.ChapGoes': WHATEVER THE INPUT: true; the input reads as it did. -/
def chapGoesSpec : ChangeSpec := { name := "chapGoes", fn := fun _ => fun
  | [d] => { results := [.lit (.bool true)], args := [d] }
  | _ => none }
def chapGoesRow : OpenClaim := { program := "ytbjiokjmidipaaa", sum := "7d71c42d4cf01f430210947893b90ee75269947044a802b7943fc3050e68c1a0", func := "citadel/citadellaw16.ChapGoes", spec := "chapGoes", unfollowed := true, recurses := true, apart := false }
def ChapGoesSaid : Prop := chapGoesRow.holds Try.pinned (OpenSpec.ofChange chapGoesSpec)

/-- ITS FALSE NEIGHBOUR: 'it returns false'. Refute it at one input. -/
def chapGoesWrong : ChangeSpec := { name := "chapGoes", fn := fun _ => fun
  | [d] => { results := [.lit (.bool false)], args := [d] }
  | _ => none }
def ChapGoesWrongFalsely : Prop := chapGoesRow.holds Try.pinned (OpenSpec.ofChange chapGoesWrong)

/-- 'citadellaw16.ChapRights': WHATEVER THE INPUT: true; the input reads as it did. -/
def chapRightsSpec : ChangeSpec := { name := "chapRights", fn := fun _ => fun
  | [d] => { results := [.lit (.bool true)], args := [d] }
  | _ => none }
def chapRightsRow : OpenClaim := { program := "ytbjiokjmidipaaa", sum := "7d71c42d4cf01f430210947893b90ee75269947044a802b7943fc3050e68c1a0", func := "citadel/citadellaw16.ChapRights", spec := "chapRights", unfollowed := true, recurses := true, apart := false }
def ChapRightsSaid : Prop := chapRightsRow.holds Try.pinned (OpenSpec.ofChange chapRightsSpec)

/-- ITS FALSE NEIGHBOUR: 'it returns false'. Refute it at one input. -/
def chapRightsWrong : ChangeSpec := { name := "chapRights", fn := fun _ => fun
  | [d] => { results := [.lit (.bool false)], args := [d] }
  | _ => none }
def ChapRightsWrongFalsely : Prop := chapRightsRow.holds Try.pinned (OpenSpec.ofChange chapRightsWrong)

/- THE SECOND FORM. 'bulk': how many values and letters a reading holds, each counted each time it is reached (what is shared counts as often as it is met; a slice's spare places count too). A statement '..UptoSaid' is the law's where the arguments, and the package variables that the reading takes, are together of bulk at most 1048576: NARROWER than '..Said'. Prove '..Said' where nothing that the law and all that it calls make is longer than what came in: it says more and counts as full. Else prove '..UptoSaid'. A law counts once. -/
mutual
def uptoBulk {H : Type} : DataW H → Nat
  | .lit (.string bytes) => bytes.length + 1
  | .lit _ => 1
  | .nil => 1
  | .ptr d => uptoBulk d + 1
  | .slice elems spare => uptoBulkAll elems + uptoBulkAll spare + 1
  | .agg parts => uptoBulkAll parts + 1
  | .iface _ d => uptoBulk d + 1
  | .map entries => uptoBulkEntries entries + 1
  | .held _ => 1
def uptoBulkAll {H : Type} : List (DataW H) → Nat
  | [] => 0
  | d :: r => uptoBulk d + uptoBulkAll r
def uptoBulkEntries {H : Type} : List (Lit × DataW H) → Nat
  | [] => 0
  | x :: r => uptoBulkEntry x + uptoBulkEntries r
def uptoBulkEntry {H : Type} : Lit × DataW H → Nat
  | (.string bytes, d) => bytes.length + uptoBulk d + 1
  | (_, d) => uptoBulk d + 1
 end
def uptoSmall : (H : Type) → List (DataW H) → Bool := fun _ ds => decide (uptoBulkAll ds ≤ 1048576)
def OpenSpec.upto (s : _root_.Go.ChangeSpec) : _root_.Go.OpenSpec := { _root_.Go.OpenSpec.ofChange s with cond := some uptoSmall }

/-- 'citadellaw11.TreeBinds', WHERE WHAT IT READS IS OF BULK AT MOST 1048576: true; the input reads as it did. -/
def treeBindsUptoRow : OpenClaim := { program := "ytbjiokjmidipaaa", sum := "7d71c42d4cf01f430210947893b90ee75269947044a802b7943fc3050e68c1a0", func := "citadel/citadellaw11.TreeBinds", spec := "treeBinds", unfollowed := true, recurses := true, apart := false, narrowed := true }
def TreeBindsUptoSaid : Prop := treeBindsUptoRow.holds Try.pinned (OpenSpec.upto treeBindsSpec)

/-- 'citadellaw11.TreeBuilds', WHERE WHAT IT READS IS OF BULK AT MOST 1048576: true; the input reads as it did. -/
def treeBuildsUptoRow : OpenClaim := { program := "ytbjiokjmidipaaa", sum := "7d71c42d4cf01f430210947893b90ee75269947044a802b7943fc3050e68c1a0", func := "citadel/citadellaw11.TreeBuilds", spec := "treeBuilds", unfollowed := true, recurses := true, apart := false, narrowed := true }
def TreeBuildsUptoSaid : Prop := treeBuildsUptoRow.holds Try.pinned (OpenSpec.upto treeBuildsSpec)

/-- 'citadellaw11.TreeHolds', WHERE WHAT IT READS IS OF BULK AT MOST 1048576: true; the input reads as it did. -/
def treeHoldsUptoRow : OpenClaim := { program := "ytbjiokjmidipaaa", sum := "7d71c42d4cf01f430210947893b90ee75269947044a802b7943fc3050e68c1a0", func := "citadel/citadellaw11.TreeHolds", spec := "treeHolds", unfollowed := true, recurses := true, apart := false, narrowed := true }
def TreeHoldsUptoSaid : Prop := treeHoldsUptoRow.holds Try.pinned (OpenSpec.upto treeHoldsSpec)

/-- 'citadellaw11.TreeJoins', WHERE WHAT IT READS IS OF BULK AT MOST 1048576: true; the input reads as it did. -/
def treeJoinsUptoRow : OpenClaim := { program := "ytbjiokjmidipaaa", sum := "7d71c42d4cf01f430210947893b90ee75269947044a802b7943fc3050e68c1a0", func := "citadel/citadellaw11.TreeJoins", spec := "treeJoins", unfollowed := true, recurses := true, apart := false, narrowed := true }
def TreeJoinsUptoSaid : Prop := treeJoinsUptoRow.holds Try.pinned (OpenSpec.upto treeJoinsSpec)

/-- 'citadellaw11.TreeLeaf', WHERE WHAT IT READS IS OF BULK AT MOST 1048576: true; the input reads as it did. -/
def treeLeafUptoRow : OpenClaim := { program := "ytbjiokjmidipaaa", sum := "7d71c42d4cf01f430210947893b90ee75269947044a802b7943fc3050e68c1a0", func := "citadel/citadellaw11.TreeLeaf", spec := "treeLeaf", unfollowed := true, recurses := true, apart := false, narrowed := true }
def TreeLeafUptoSaid : Prop := treeLeafUptoRow.holds Try.pinned (OpenSpec.upto treeLeafSpec)

/-- 'citadellaw11.TreeOthers', WHERE WHAT IT READS IS OF BULK AT MOST 1048576: true; the input reads as it did. -/
def treeOthersUptoRow : OpenClaim := { program := "ytbjiokjmidipaaa", sum := "7d71c42d4cf01f430210947893b90ee75269947044a802b7943fc3050e68c1a0", func := "citadel/citadellaw11.TreeOthers", spec := "treeOthers", unfollowed := true, recurses := true, apart := false, narrowed := true }
def TreeOthersUptoSaid : Prop := treeOthersUptoRow.holds Try.pinned (OpenSpec.upto treeOthersSpec)

/-- 'citadellaw11.TreePath', WHERE WHAT IT READS IS OF BULK AT MOST 1048576: true; the input reads as it did. -/
def treePathUptoRow : OpenClaim := { program := "ytbjiokjmidipaaa", sum := "7d71c42d4cf01f430210947893b90ee75269947044a802b7943fc3050e68c1a0", func := "citadel/citadellaw11.TreePath", spec := "treePath", unfollowed := true, recurses := true, apart := false, narrowed := true }
def TreePathUptoSaid : Prop := treePathUptoRow.holds Try.pinned (OpenSpec.upto treePathSpec)

/-- 'citadellaw11.TreeSectors', WHERE WHAT IT READS IS OF BULK AT MOST 1048576: true; the input reads as it did. -/
def treeSectorsUptoRow : OpenClaim := { program := "ytbjiokjmidipaaa", sum := "7d71c42d4cf01f430210947893b90ee75269947044a802b7943fc3050e68c1a0", func := "citadel/citadellaw11.TreeSectors", spec := "treeSectors", apart := false, narrowed := true }
def TreeSectorsUptoSaid : Prop := treeSectorsUptoRow.holds Try.pinned (OpenSpec.upto treeSectorsSpec)

/-- 'citadellaw11.TreeTurns', WHERE WHAT IT READS IS OF BULK AT MOST 1048576: true; the input reads as it did. -/
def treeTurnsUptoRow : OpenClaim := { program := "ytbjiokjmidipaaa", sum := "7d71c42d4cf01f430210947893b90ee75269947044a802b7943fc3050e68c1a0", func := "citadel/citadellaw11.TreeTurns", spec := "treeTurns", unfollowed := true, recurses := true, apart := false, narrowed := true }
def TreeTurnsUptoSaid : Prop := treeTurnsUptoRow.holds Try.pinned (OpenSpec.upto treeTurnsSpec)

/-- 'citadellaw16.ChapAnswers', WHERE WHAT IT READS IS OF BULK AT MOST 1048576: true; the input reads as it did. -/
def chapAnswersUptoRow : OpenClaim := { program := "ytbjiokjmidipaaa", sum := "7d71c42d4cf01f430210947893b90ee75269947044a802b7943fc3050e68c1a0", func := "citadel/citadellaw16.ChapAnswers", spec := "chapAnswers", unfollowed := true, recurses := true, apart := false, narrowed := true }
def ChapAnswersUptoSaid : Prop := chapAnswersUptoRow.holds Try.pinned (OpenSpec.upto chapAnswersSpec)

/-- 'citadellaw16.ChapBound', WHERE WHAT IT READS IS OF BULK AT MOST 1048576: true; the input reads as it did. -/
def chapBoundUptoRow : OpenClaim := { program := "ytbjiokjmidipaaa", sum := "7d71c42d4cf01f430210947893b90ee75269947044a802b7943fc3050e68c1a0", func := "citadel/citadellaw16.ChapBound", spec := "chapBound", unfollowed := true, recurses := true, apart := false, narrowed := true }
def ChapBoundUptoSaid : Prop := chapBoundUptoRow.holds Try.pinned (OpenSpec.upto chapBoundSpec)

/-- 'citadellaw16.ChapDraws', WHERE WHAT IT READS IS OF BULK AT MOST 1048576: true; the input reads as it did. -/
def chapDrawsUptoRow : OpenClaim := { program := "ytbjiokjmidipaaa", sum := "7d71c42d4cf01f430210947893b90ee75269947044a802b7943fc3050e68c1a0", func := "citadel/citadellaw16.ChapDraws", spec := "chapDraws", unfollowed := true, recurses := true, apart := false, narrowed := true }
def ChapDrawsUptoSaid : Prop := chapDrawsUptoRow.holds Try.pinned (OpenSpec.upto chapDrawsSpec)

/-- 'citadellaw16.ChapFresh', WHERE WHAT IT READS IS OF BULK AT MOST 1048576: true; the input reads as it did. -/
def chapFreshUptoRow : OpenClaim := { program := "ytbjiokjmidipaaa", sum := "7d71c42d4cf01f430210947893b90ee75269947044a802b7943fc3050e68c1a0", func := "citadel/citadellaw16.ChapFresh", spec := "chapFresh", unfollowed := true, recurses := true, apart := false, narrowed := true }
def ChapFreshUptoSaid : Prop := chapFreshUptoRow.holds Try.pinned (OpenSpec.upto chapFreshSpec)

/-- 'citadellaw16.ChapGoes', WHERE WHAT IT READS IS OF BULK AT MOST 1048576: true; the input reads as it did. -/
def chapGoesUptoRow : OpenClaim := { program := "ytbjiokjmidipaaa", sum := "7d71c42d4cf01f430210947893b90ee75269947044a802b7943fc3050e68c1a0", func := "citadel/citadellaw16.ChapGoes", spec := "chapGoes", unfollowed := true, recurses := true, apart := false, narrowed := true }
def ChapGoesUptoSaid : Prop := chapGoesUptoRow.holds Try.pinned (OpenSpec.upto chapGoesSpec)

/-- 'citadellaw16.ChapRights', WHERE WHAT IT READS IS OF BULK AT MOST 1048576: true; the input reads as it did. -/
def chapRightsUptoRow : OpenClaim := { program := "ytbjiokjmidipaaa", sum := "7d71c42d4cf01f430210947893b90ee75269947044a802b7943fc3050e68c1a0", func := "citadel/citadellaw16.ChapRights", spec := "chapRights", unfollowed := true, recurses := true, apart := false, narrowed := true }
def ChapRightsUptoSaid : Prop := chapRightsUptoRow.holds Try.pinned (OpenSpec.upto chapRightsSpec)

end Rows
end Go.Proofs.Ytbjiokjmidipaaa
