/-
  No cell of these rows narrows 'for every input' (looked for: loops, veiled, ifaces, maps, wideKeys, modest, calm, conditions, laid).
  DERIVED. THE GIVEN ROWS OF THIS SEAT. 6 by the template 'for every input the law returns true; each argument reads behind the call as it read before'; 0 by the template 'total and deterministic' (their statements: YtdifepfplfkfoaaTotals.lean).
  GIVEN WITH THE SEED: the statements are not yours to turn. If you find one false, say at which input.
  Laid BY PROGRAM, IN A SANDBOX (cutbox-rows.mjs): the forced cells as the released guide's own fill.sh prints them over the translation 6521c0393b2c9b20… (all of the seat's roots in one cut). By AI agents, Wed Nov 11 2026. No macro, syntax, notation, axiom, sorry.
-/
import Derived.Test.YtdifepfplfkfoaaChecked
import GoSem.Claim
import GoSem.ClaimJoined
import GoSem.ClaimMapViews
import Derived.JoinedTies
import Derived.KernelRfl
namespace Go.Proofs.Ytdifepfplfkfoaa
/- THE CELL 'sum', in the pinned program and in every row, IS THE sha256 OF THE DUMP (.gsa) THAT YtdifepfplfkfoaaProg.lean LOADS. Nothing in Lean hashes anything: it is a label: what it is worth is what the hold of that sum in a sandbox is worth. -/
noncomputable def Try.pinned : Pinned := { name := "ytdifepfplfkfoaa", sum := "6521c0393b2c9b207eed41b355130fc0d97fea3d6306b64f9f9d4170240c4887", checked := Try.checked }
namespace Rows
def none {H : Type} : Left H := { results := [], args := [] }

/-- 'citadellaw11.TreeBinds': WHATEVER THE INPUT: true; the input reads as it did. -/
def treeBindsSpec : ChangeSpec := { name := "treeBinds", fn := fun _ => fun
  | [d] => { results := [.lit (.bool true)], args := [d] }
  | _ => none }
def treeBindsRow : OpenClaim := { program := "ytdifepfplfkfoaa", sum := "6521c0393b2c9b207eed41b355130fc0d97fea3d6306b64f9f9d4170240c4887", func := "citadel/citadellaw11.TreeBinds", spec := "treeBinds", unfollowed := true, recurses := true, apart := false }
def TreeBindsSaid : Prop := treeBindsRow.holds Try.pinned (OpenSpec.ofChange treeBindsSpec)

/-- ITS FALSE NEIGHBOUR: 'it returns false'. Refute it at one input. -/
def treeBindsWrong : ChangeSpec := { name := "treeBinds", fn := fun _ => fun
  | [d] => { results := [.lit (.bool false)], args := [d] }
  | _ => none }
def TreeBindsWrongFalsely : Prop := treeBindsRow.holds Try.pinned (OpenSpec.ofChange treeBindsWrong)

/-- 'citadellaw11.TreeJoins': WHATEVER THE INPUT: true; the input reads as it did. -/
def treeJoinsSpec : ChangeSpec := { name := "treeJoins", fn := fun _ => fun
  | [d] => { results := [.lit (.bool true)], args := [d] }
  | _ => none }
def treeJoinsRow : OpenClaim := { program := "ytdifepfplfkfoaa", sum := "6521c0393b2c9b207eed41b355130fc0d97fea3d6306b64f9f9d4170240c4887", func := "citadel/citadellaw11.TreeJoins", spec := "treeJoins", unfollowed := true, recurses := true, apart := false }
def TreeJoinsSaid : Prop := treeJoinsRow.holds Try.pinned (OpenSpec.ofChange treeJoinsSpec)

/-- ITS FALSE NEIGHBOUR: 'it returns false'. Refute it at one input. -/
def treeJoinsWrong : ChangeSpec := { name := "treeJoins", fn := fun _ => fun
  | [d] => { results := [.lit (.bool false)], args := [d] }
  | _ => none }
def TreeJoinsWrongFalsely : Prop := treeJoinsRow.holds Try.pinned (OpenSpec.ofChange treeJoinsWrong)

/-- 'citadellaw11.TreeLeaf': WHATEVER THE INPUT: true; the input reads as it did. -/
def treeLeafSpec : ChangeSpec := { name := "treeLeaf", fn := fun _ => fun
  | [d1, d2, d3] => { results := [.lit (.bool true)], args := [d1, d2, d3] }
  | _ => none }
def treeLeafRow : OpenClaim := { program := "ytdifepfplfkfoaa", sum := "6521c0393b2c9b207eed41b355130fc0d97fea3d6306b64f9f9d4170240c4887", func := "citadel/citadellaw11.TreeLeaf", spec := "treeLeaf", unfollowed := true, recurses := true, apart := false }
def TreeLeafSaid : Prop := treeLeafRow.holds Try.pinned (OpenSpec.ofChange treeLeafSpec)

/-- ITS FALSE NEIGHBOUR: 'it returns false'. Refute it at one input. -/
def treeLeafWrong : ChangeSpec := { name := "treeLeaf", fn := fun _ => fun
  | [d1, d2, d3] => { results := [.lit (.bool false)], args := [d1, d2, d3] }
  | _ => none }
def TreeLeafWrongFalsely : Prop := treeLeafRow.holds Try.pinned (OpenSpec.ofChange treeLeafWrong)

/-- 'citadellaw11.TreeTurns': WHATEVER THE INPUT: true; the input reads as it did. -/
def treeTurnsSpec : ChangeSpec := { name := "treeTurns", fn := fun _ => fun
  | [d] => { results := [.lit (.bool true)], args := [d] }
  | _ => none }
def treeTurnsRow : OpenClaim := { program := "ytdifepfplfkfoaa", sum := "6521c0393b2c9b207eed41b355130fc0d97fea3d6306b64f9f9d4170240c4887", func := "citadel/citadellaw11.TreeTurns", spec := "treeTurns", unfollowed := true, recurses := true, apart := false }
def TreeTurnsSaid : Prop := treeTurnsRow.holds Try.pinned (OpenSpec.ofChange treeTurnsSpec)

/-- ITS FALSE NEIGHBOUR: 'it returns false'. Refute it at one input. -/
def treeTurnsWrong : ChangeSpec := { name := "treeTurns", fn := fun _ => fun
  | [d] => { results := [.lit (.bool false)], args := [d] }
  | _ => none }
def TreeTurnsWrongFalsely : Prop := treeTurnsRow.holds Try.pinned (OpenSpec.ofChange treeTurnsWrong)

/-- 'citadellaw16.ChapAnswers': WHATEVER THE INPUT: true; the input reads as it did. -/
def chapAnswersSpec : ChangeSpec := { name := "chapAnswers", fn := fun _ => fun
  | [d1, d2, d3] => { results := [.lit (.bool true)], args := [d1, d2, d3] }
  | _ => none }
def chapAnswersRow : OpenClaim := { program := "ytdifepfplfkfoaa", sum := "6521c0393b2c9b207eed41b355130fc0d97fea3d6306b64f9f9d4170240c4887", func := "citadel/citadellaw16.ChapAnswers", spec := "chapAnswers", unfollowed := true, recurses := true, apart := false }
def ChapAnswersSaid : Prop := chapAnswersRow.holds Try.pinned (OpenSpec.ofChange chapAnswersSpec)

/-- ITS FALSE NEIGHBOUR: 'it returns false'. Refute it at one input. -/
def chapAnswersWrong : ChangeSpec := { name := "chapAnswers", fn := fun _ => fun
  | [d1, d2, d3] => { results := [.lit (.bool false)], args := [d1, d2, d3] }
  | _ => none }
def ChapAnswersWrongFalsely : Prop := chapAnswersRow.holds Try.pinned (OpenSpec.ofChange chapAnswersWrong)

/-- 'citadellaw16.ChapFresh': WHATEVER THE INPUT: true; the input reads as it did. -/
def chapFreshSpec : ChangeSpec := { name := "chapFresh", fn := fun _ => fun
  | [d1, d2, d3] => { results := [.lit (.bool true)], args := [d1, d2, d3] }
  | _ => none }
def chapFreshRow : OpenClaim := { program := "ytdifepfplfkfoaa", sum := "6521c0393b2c9b207eed41b355130fc0d97fea3d6306b64f9f9d4170240c4887", func := "citadel/citadellaw16.ChapFresh", spec := "chapFresh", unfollowed := true, recurses := true, apart := false }
def ChapFreshSaid : Prop := chapFreshRow.holds Try.pinned (OpenSpec.ofChange chapFreshSpec)

/-- ITS FALSE NEIGHBOUR: 'it returns false'. Refute it at one input. -/
def chapFreshWrong : ChangeSpec := { name := "chapFresh", fn := fun _ => fun
  | [d1, d2, d3] => { results := [.lit (.bool false)], args := [d1, d2, d3] }
  | _ => none }
def ChapFreshWrongFalsely : Prop := chapFreshRow.holds Try.pinned (OpenSpec.ofChange chapFreshWrong)

/- THE SECOND FORM. 'bulk': how many values and letters a reading holds, each counted each time it is reached (what is shared counts as often as it is met; a slice's spare places count too). A statement '..UptoSaid' is the law's where the arguments, and the package variables that the reading takes, are together of bulk at most 1048576: NARROWER than '..Said'. Prove '..Said' where nothing that the law and all that it calls make is longer than what came in: it says more and counts as full. Else prove '..UptoSaid'. A law counts once. -/
mutual
def uptoBulk {H : Type} : DataW H → Nat
  | .lit (.string bytes) => bytes.length + 1
  | .lit _ => 1
  | .nil => 1
  | .ptr d => uptoBulk d + 1
  | .slice elems spare => uptoBulkAll elems + uptoBulkAll spare + 1
  | .agg parts => uptoBulkAll parts + 1
  | .iface _ d => uptoBulk d + 1
  | .map entries => uptoBulkEntries entries + 1
  | .held _ => 1
def uptoBulkAll {H : Type} : List (DataW H) → Nat
  | [] => 0
  | d :: r => uptoBulk d + uptoBulkAll r
def uptoBulkEntries {H : Type} : List (Lit × DataW H) → Nat
  | [] => 0
  | x :: r => uptoBulkEntry x + uptoBulkEntries r
def uptoBulkEntry {H : Type} : Lit × DataW H → Nat
  | (.string bytes, d) => bytes.length + uptoBulk d + 1
  | (_, d) => uptoBulk d + 1
 end
def uptoSmall : (H : Type) → List (DataW H) → Bool := fun _ ds => decide (uptoBulkAll ds ≤ 1048576)
def OpenSpec.upto (s : _root_.Go.ChangeSpec) : _root_.Go.OpenSpec := { _root_.Go.OpenSpec.ofChange s with cond := some uptoSmall }

/-- 'citadellaw11.TreeBinds', WHERE WHAT IT READS IS OF BULK AT MOST 1048576: true; the input reads as it did. -/
def treeBindsUptoRow : OpenClaim := { program := "ytdifepfplfkfoaa", sum := "6521c0393b2c9b207eed41b355130fc0d97fea3d6306b64f9f9d4170240c4887", func := "citadel/citadellaw11.TreeBinds", spec := "treeBinds", unfollowed := true, recurses := true, apart := false, narrowed := true }
def TreeBindsUptoSaid : Prop := treeBindsUptoRow.holds Try.pinned (OpenSpec.upto treeBindsSpec)

/-- 'citadellaw11.TreeJoins', WHERE WHAT IT READS IS OF BULK AT MOST 1048576: true; the input reads as it did. -/
def treeJoinsUptoRow : OpenClaim := { program := "ytdifepfplfkfoaa", sum := "6521c0393b2c9b207eed41b355130fc0d97fea3d6306b64f9f9d4170240c4887", func := "citadel/citadellaw11.TreeJoins", spec := "treeJoins", unfollowed := true, recurses := true, apart := false, narrowed := true }
def TreeJoinsUptoSaid : Prop := treeJoinsUptoRow.holds Try.pinned (OpenSpec.upto treeJoinsSpec)

/-- 'citadellaw11.TreeLeaf', WHERE WHAT IT READS IS OF BULK AT MOST 1048576: true; the input reads as it did. -/
def treeLeafUptoRow : OpenClaim := { program := "ytdifepfplfkfoaa", sum := "6521c0393b2c9b207eed41b355130fc0d97fea3d6306b64f9f9d4170240c4887", func := "citadel/citadellaw11.TreeLeaf", spec := "treeLeaf", unfollowed := true, recurses := true, apart := false, narrowed := true }
def TreeLeafUptoSaid : Prop := treeLeafUptoRow.holds Try.pinned (OpenSpec.upto treeLeafSpec)

/-- 'citadellaw11.TreeTurns', WHERE WHAT IT READS IS OF BULK AT MOST 1048576: true; the input reads as it did. -/
def treeTurnsUptoRow : OpenClaim := { program := "ytdifepfplfkfoaa", sum := "6521c0393b2c9b207eed41b355130fc0d97fea3d6306b64f9f9d4170240c4887", func := "citadel/citadellaw11.TreeTurns", spec := "treeTurns", unfollowed := true, recurses := true, apart := false, narrowed := true }
def TreeTurnsUptoSaid : Prop := treeTurnsUptoRow.holds Try.pinned (OpenSpec.upto treeTurnsSpec)

/-- 'citadellaw16.ChapAnswers', WHERE WHAT IT READS IS OF BULK AT MOST 1048576: true; the input reads as it did. -/
def chapAnswersUptoRow : OpenClaim := { program := "ytdifepfplfkfoaa", sum := "6521c0393b2c9b207eed41b355130fc0d97fea3d6306b64f9f9d4170240c4887", func := "citadel/citadellaw16.ChapAnswers", spec := "chapAnswers", unfollowed := true, recurses := true, apart := false, narrowed := true }
def ChapAnswersUptoSaid : Prop := chapAnswersUptoRow.holds Try.pinned (OpenSpec.upto chapAnswersSpec)

/-- 'citadellaw16.ChapFresh', WHERE WHAT IT READS IS OF BULK AT MOST 1048576: true; the input reads as it did. -/
def chapFreshUptoRow : OpenClaim := { program := "ytdifepfplfkfoaa", sum := "6521c0393b2c9b207eed41b355130fc0d97fea3d6306b64f9f9d4170240c4887", func := "citadel/citadellaw16.ChapFresh", spec := "chapFresh", unfollowed := true, recurses := true, apart := false, narrowed := true }
def ChapFreshUptoSaid : Prop := chapFreshUptoRow.holds Try.pinned (OpenSpec.upto chapFreshSpec)

end Rows
end Go.Proofs.Ytdifepfplfkfoaa
