/-
  No cell of these rows narrows 'for every input' (looked for: loops, veiled, ifaces, maps, wideKeys, modest, calm, conditions, laid).
  DERIVED. THE GIVEN ROWS OF THIS SEAT. 7 by the template 'for every input the law returns true; each argument reads behind the call as it read before'; 0 by the template 'total and deterministic' (their statements: YtiadfbcdopfibaaTotals.lean).
  GIVEN WITH THE SEED: the statements are not yours to turn. If you find one false, say at which input.
  Laid BY PROGRAM, IN A SANDBOX (cutbox-rows.mjs): the forced cells as the released guide's own fill.sh prints them over the translation 6437c67fc68fb7fb… (all of the seat's roots in one cut). By AI agents, Wed Nov 11 2026. No macro, syntax, notation, axiom, sorry.
-/
import Derived.Test.YtiadfbcdopfibaaChecked
import GoSem.Claim
import GoSem.ClaimJoined
import GoSem.ClaimMapViews
import Derived.JoinedTies
import Derived.KernelRfl
namespace Go.Proofs.Ytiadfbcdopfibaa
/- THE CELL 'sum', in the pinned program and in every row, IS THE sha256 OF THE DUMP (.gsa) THAT YtiadfbcdopfibaaProg.lean LOADS. Nothing in Lean hashes anything: it is a label: what it is worth is what the hold of that sum in a sandbox is worth. -/
noncomputable def Try.pinned : Pinned := { name := "ytiadfbcdopfibaa", sum := "6437c67fc68fb7fb62d7d90d52b5cdbf43375347e98450f81b1d7d03aa0b9b2b", checked := Try.checked }
namespace Rows
def none {H : Type} : Left H := { results := [], args := [] }

/-- 'citadellaw18.LoginAnswers': WHATEVER THE INPUT: true; the input reads as it did. -/
def loginAnswersSpec : ChangeSpec := { name := "loginAnswers", fn := fun _ => fun
  | [d] => { results := [.lit (.bool true)], args := [d] }
  | _ => none }
def loginAnswersRow : OpenClaim := { program := "ytiadfbcdopfibaa", sum := "6437c67fc68fb7fb62d7d90d52b5cdbf43375347e98450f81b1d7d03aa0b9b2b", func := "citadel/citadellaw18.LoginAnswers", spec := "loginAnswers", unfollowed := true, recurses := true, apart := false }
def LoginAnswersSaid : Prop := loginAnswersRow.holds Try.pinned (OpenSpec.ofChange loginAnswersSpec)

/-- ITS FALSE NEIGHBOUR: 'it returns false'. Refute it at one input. -/
def loginAnswersWrong : ChangeSpec := { name := "loginAnswers", fn := fun _ => fun
  | [d] => { results := [.lit (.bool false)], args := [d] }
  | _ => none }
def LoginAnswersWrongFalsely : Prop := loginAnswersRow.holds Try.pinned (OpenSpec.ofChange loginAnswersWrong)

/-- 'citadellaw18.LoginHello': WHATEVER THE INPUT: true; the input reads as it did. -/
def loginHelloSpec : ChangeSpec := { name := "loginHello", fn := fun _ => fun
  | [d1, d2] => { results := [.lit (.bool true)], args := [d1, d2] }
  | _ => none }
def loginHelloRow : OpenClaim := { program := "ytiadfbcdopfibaa", sum := "6437c67fc68fb7fb62d7d90d52b5cdbf43375347e98450f81b1d7d03aa0b9b2b", func := "citadel/citadellaw18.LoginHello", spec := "loginHello", unfollowed := true, recurses := true, apart := false }
def LoginHelloSaid : Prop := loginHelloRow.holds Try.pinned (OpenSpec.ofChange loginHelloSpec)

/-- ITS FALSE NEIGHBOUR: 'it returns false'. Refute it at one input. -/
def loginHelloWrong : ChangeSpec := { name := "loginHello", fn := fun _ => fun
  | [d1, d2] => { results := [.lit (.bool false)], args := [d1, d2] }
  | _ => none }
def LoginHelloWrongFalsely : Prop := loginHelloRow.holds Try.pinned (OpenSpec.ofChange loginHelloWrong)

/-- 'citadellaw18.LoginPlays': WHATEVER THE INPUT: true; the input reads as it did. -/
def loginPlaysSpec : ChangeSpec := { name := "loginPlays", fn := fun _ => fun
  | [d] => { results := [.lit (.bool true)], args := [d] }
  | _ => none }
def loginPlaysRow : OpenClaim := { program := "ytiadfbcdopfibaa", sum := "6437c67fc68fb7fb62d7d90d52b5cdbf43375347e98450f81b1d7d03aa0b9b2b", func := "citadel/citadellaw18.LoginPlays", spec := "loginPlays", unfollowed := true, recurses := true, apart := false }
def LoginPlaysSaid : Prop := loginPlaysRow.holds Try.pinned (OpenSpec.ofChange loginPlaysSpec)

/-- ITS FALSE NEIGHBOUR: 'it returns false'. Refute it at one input. -/
def loginPlaysWrong : ChangeSpec := { name := "loginPlays", fn := fun _ => fun
  | [d] => { results := [.lit (.bool false)], args := [d] }
  | _ => none }
def LoginPlaysWrongFalsely : Prop := loginPlaysRow.holds Try.pinned (OpenSpec.ofChange loginPlaysWrong)

/-- 'citadellaw18.LoginIn': WHATEVER THE INPUT: true; the input reads as it did. -/
def loginInSpec : ChangeSpec := { name := "loginIn", fn := fun _ => fun
  | [d] => { results := [.lit (.bool true)], args := [d] }
  | _ => none }
def loginInRow : OpenClaim := { program := "ytiadfbcdopfibaa", sum := "6437c67fc68fb7fb62d7d90d52b5cdbf43375347e98450f81b1d7d03aa0b9b2b", func := "citadel/citadellaw18.LoginIn", spec := "loginIn", unfollowed := true, recurses := true, apart := false }
def LoginInSaid : Prop := loginInRow.holds Try.pinned (OpenSpec.ofChange loginInSpec)

/-- ITS FALSE NEIGHBOUR: 'it returns false'. Refute it at one input. -/
def loginInWrong : ChangeSpec := { name := "loginIn", fn := fun _ => fun
  | [d] => { results := [.lit (.bool false)], args := [d] }
  | _ => none }
def LoginInWrongFalsely : Prop := loginInRow.holds Try.pinned (OpenSpec.ofChange loginInWrong)

/-- 'citadellaw18.LoginForged': WHATEVER THE INPUT: true; the input reads as it did. -/
def loginForgedSpec : ChangeSpec := { name := "loginForged", fn := fun _ => fun
  | [d] => { results := [.lit (.bool true)], args := [d] }
  | _ => none }
def loginForgedRow : OpenClaim := { program := "ytiadfbcdopfibaa", sum := "6437c67fc68fb7fb62d7d90d52b5cdbf43375347e98450f81b1d7d03aa0b9b2b", func := "citadel/citadellaw18.LoginForged", spec := "loginForged", unfollowed := true, recurses := true, apart := false }
def LoginForgedSaid : Prop := loginForgedRow.holds Try.pinned (OpenSpec.ofChange loginForgedSpec)

/-- ITS FALSE NEIGHBOUR: 'it returns false'. Refute it at one input. -/
def loginForgedWrong : ChangeSpec := { name := "loginForged", fn := fun _ => fun
  | [d] => { results := [.lit (.bool false)], args := [d] }
  | _ => none }
def LoginForgedWrongFalsely : Prop := loginForgedRow.holds Try.pinned (OpenSpec.ofChange loginForgedWrong)

/-- 'citadellaw18.LoginNone': WHATEVER THE INPUT: true; the input reads as it did. -/
def loginNoneSpec : ChangeSpec := { name := "loginNone", fn := fun _ => fun
  | [d] => { results := [.lit (.bool true)], args := [d] }
  | _ => none }
def loginNoneRow : OpenClaim := { program := "ytiadfbcdopfibaa", sum := "6437c67fc68fb7fb62d7d90d52b5cdbf43375347e98450f81b1d7d03aa0b9b2b", func := "citadel/citadellaw18.LoginNone", spec := "loginNone", unfollowed := true, recurses := true, apart := false }
def LoginNoneSaid : Prop := loginNoneRow.holds Try.pinned (OpenSpec.ofChange loginNoneSpec)

/-- ITS FALSE NEIGHBOUR: 'it returns false'. Refute it at one input. -/
def loginNoneWrong : ChangeSpec := { name := "loginNone", fn := fun _ => fun
  | [d] => { results := [.lit (.bool false)], args := [d] }
  | _ => none }
def LoginNoneWrongFalsely : Prop := loginNoneRow.holds Try.pinned (OpenSpec.ofChange loginNoneWrong)

/-- 'citadellaw11.TreeBinds': WHATEVER THE INPUT: true; the input reads as it did. -/
def treeBindsSpec : ChangeSpec := { name := "treeBinds", fn := fun _ => fun
  | [d] => { results := [.lit (.bool true)], args := [d] }
  | _ => none }
def treeBindsRow : OpenClaim := { program := "ytiadfbcdopfibaa", sum := "6437c67fc68fb7fb62d7d90d52b5cdbf43375347e98450f81b1d7d03aa0b9b2b", func := "citadel/citadellaw11.TreeBinds", spec := "treeBinds", unfollowed := true, recurses := true, apart := false }
def TreeBindsSaid : Prop := treeBindsRow.holds Try.pinned (OpenSpec.ofChange treeBindsSpec)

/-- ITS FALSE NEIGHBOUR: 'it returns false'. Refute it at one input. -/
def treeBindsWrong : ChangeSpec := { name := "treeBinds", fn := fun _ => fun
  | [d] => { results := [.lit (.bool false)], args := [d] }
  | _ => none }
def TreeBindsWrongFalsely : Prop := treeBindsRow.holds Try.pinned (OpenSpec.ofChange treeBindsWrong)

/- THE SECOND FORM. 'bulk': how many values and letters a reading holds, each counted each time it is reached (what is shared counts as often as it is met; a slice's spare places count too). A statement '..UptoSaid' is the law's where the arguments, and the package variables that the reading takes, are together of bulk at most 1048576: NARROWER than '..Said'. Prove '..Said' where nothing that the law and all that it calls make is longer than what came in: it says more and counts as full. Else prove '..UptoSaid'. A law counts once. -/
mutual
def uptoBulk {H : Type} : DataW H → Nat
  | .lit (.string bytes) => bytes.length + 1
  | .lit _ => 1
  | .nil => 1
  | .ptr d => uptoBulk d + 1
  | .slice elems spare => uptoBulkAll elems + uptoBulkAll spare + 1
  | .agg parts => uptoBulkAll parts + 1
  | .iface _ d => uptoBulk d + 1
  | .map entries => uptoBulkEntries entries + 1
  | .held _ => 1
def uptoBulkAll {H : Type} : List (DataW H) → Nat
  | [] => 0
  | d :: r => uptoBulk d + uptoBulkAll r
def uptoBulkEntries {H : Type} : List (Lit × DataW H) → Nat
  | [] => 0
  | x :: r => uptoBulkEntry x + uptoBulkEntries r
def uptoBulkEntry {H : Type} : Lit × DataW H → Nat
  | (.string bytes, d) => bytes.length + uptoBulk d + 1
  | (_, d) => uptoBulk d + 1
 end
def uptoSmall : (H : Type) → List (DataW H) → Bool := fun _ ds => decide (uptoBulkAll ds ≤ 1048576)
def OpenSpec.upto (s : _root_.Go.ChangeSpec) : _root_.Go.OpenSpec := { _root_.Go.OpenSpec.ofChange s with cond := some uptoSmall }

/-- 'citadellaw18.LoginAnswers', WHERE WHAT IT READS IS OF BULK AT MOST 1048576: true; the input reads as it did. -/
def loginAnswersUptoRow : OpenClaim := { program := "ytiadfbcdopfibaa", sum := "6437c67fc68fb7fb62d7d90d52b5cdbf43375347e98450f81b1d7d03aa0b9b2b", func := "citadel/citadellaw18.LoginAnswers", spec := "loginAnswers", unfollowed := true, recurses := true, apart := false, narrowed := true }
def LoginAnswersUptoSaid : Prop := loginAnswersUptoRow.holds Try.pinned (OpenSpec.upto loginAnswersSpec)

/-- 'citadellaw18.LoginHello', WHERE WHAT IT READS IS OF BULK AT MOST 1048576: true; the input reads as it did. -/
def loginHelloUptoRow : OpenClaim := { program := "ytiadfbcdopfibaa", sum := "6437c67fc68fb7fb62d7d90d52b5cdbf43375347e98450f81b1d7d03aa0b9b2b", func := "citadel/citadellaw18.LoginHello", spec := "loginHello", unfollowed := true, recurses := true, apart := false, narrowed := true }
def LoginHelloUptoSaid : Prop := loginHelloUptoRow.holds Try.pinned (OpenSpec.upto loginHelloSpec)

/-- 'citadellaw18.LoginPlays', WHERE WHAT IT READS IS OF BULK AT MOST 1048576: true; the input reads as it did. -/
def loginPlaysUptoRow : OpenClaim := { program := "ytiadfbcdopfibaa", sum := "6437c67fc68fb7fb62d7d90d52b5cdbf43375347e98450f81b1d7d03aa0b9b2b", func := "citadel/citadellaw18.LoginPlays", spec := "loginPlays", unfollowed := true, recurses := true, apart := false, narrowed := true }
def LoginPlaysUptoSaid : Prop := loginPlaysUptoRow.holds Try.pinned (OpenSpec.upto loginPlaysSpec)

/-- 'citadellaw18.LoginIn', WHERE WHAT IT READS IS OF BULK AT MOST 1048576: true; the input reads as it did. -/
def loginInUptoRow : OpenClaim := { program := "ytiadfbcdopfibaa", sum := "6437c67fc68fb7fb62d7d90d52b5cdbf43375347e98450f81b1d7d03aa0b9b2b", func := "citadel/citadellaw18.LoginIn", spec := "loginIn", unfollowed := true, recurses := true, apart := false, narrowed := true }
def LoginInUptoSaid : Prop := loginInUptoRow.holds Try.pinned (OpenSpec.upto loginInSpec)

/-- 'citadellaw18.LoginForged', WHERE WHAT IT READS IS OF BULK AT MOST 1048576: true; the input reads as it did. -/
def loginForgedUptoRow : OpenClaim := { program := "ytiadfbcdopfibaa", sum := "6437c67fc68fb7fb62d7d90d52b5cdbf43375347e98450f81b1d7d03aa0b9b2b", func := "citadel/citadellaw18.LoginForged", spec := "loginForged", unfollowed := true, recurses := true, apart := false, narrowed := true }
def LoginForgedUptoSaid : Prop := loginForgedUptoRow.holds Try.pinned (OpenSpec.upto loginForgedSpec)

/-- 'citadellaw18.LoginNone', WHERE WHAT IT READS IS OF BULK AT MOST 1048576: true; the input reads as it did. -/
def loginNoneUptoRow : OpenClaim := { program := "ytiadfbcdopfibaa", sum := "6437c67fc68fb7fb62d7d90d52b5cdbf43375347e98450f81b1d7d03aa0b9b2b", func := "citadel/citadellaw18.LoginNone", spec := "loginNone", unfollowed := true, recurses := true, apart := false, narrowed := true }
def LoginNoneUptoSaid : Prop := loginNoneUptoRow.holds Try.pinned (OpenSpec.upto loginNoneSpec)

/-- 'citadellaw11.TreeBinds', WHERE WHAT IT READS IS OF BULK AT MOST 1048576: true; the input reads as it did. -/
def treeBindsUptoRow : OpenClaim := { program := "ytiadfbcdopfibaa", sum := "6437c67fc68fb7fb62d7d90d52b5cdbf43375347e98450f81b1d7d03aa0b9b2b", func := "citadel/citadellaw11.TreeBinds", spec := "treeBinds", unfollowed := true, recurses := true, apart := false, narrowed := true }
def TreeBindsUptoSaid : Prop := treeBindsUptoRow.holds Try.pinned (OpenSpec.upto treeBindsSpec)

end Rows
end Go.Proofs.Ytiadfbcdopfibaa
