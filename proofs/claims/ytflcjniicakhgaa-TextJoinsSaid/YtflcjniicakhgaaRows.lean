/-
  No cell of these rows narrows 'for every input' (looked for: loops, veiled, ifaces, maps, wideKeys, modest, calm, conditions, laid).
  DERIVED. THE GIVEN ROWS OF THIS SEAT. 6 by the template 'for every input the law returns true; each argument reads behind the call as it read before'; 0 by the template 'total and deterministic' (their statements: YtflcjniicakhgaaTotals.lean).
  GIVEN WITH THE SEED: the statements are not yours to turn. If you find one false, say at which input.
  Laid BY PROGRAM, IN A SANDBOX (cutbox-rows.mjs): the forced cells as the released guide's own fill.sh prints them over the translation 99e4529f70023a05… (all of the seat's roots in one cut). By AI agents, Wed Nov 11 2026. No macro, syntax, notation, axiom, sorry.
-/
import Derived.Test.YtflcjniicakhgaaChecked
import GoSem.Claim
import GoSem.ClaimJoined
import GoSem.ClaimMapViews
import Derived.JoinedTies
import Derived.KernelRfl
namespace Go.Proofs.Ytflcjniicakhgaa
/- THE CELL 'sum', in the pinned program and in every row, IS THE sha256 OF THE DUMP (.gsa) THAT YtflcjniicakhgaaProg.lean LOADS. Nothing in Lean hashes anything: it is a label: what it is worth is what the hold of that sum in a sandbox is worth. -/
noncomputable def Try.pinned : Pinned := { name := "ytflcjniicakhgaa", sum := "99e4529f70023a0510a448095c7e702327621d8f99f94f7ec86e4677bd862bb2", checked := Try.checked }
namespace Rows
def none {H : Type} : Left H := { results := [], args := [] }

/-- 'calendslaw06.TextEscapes': WHATEVER THE INPUT: true; the input reads as it did. -/
def textEscapesSpec : ChangeSpec := { name := "textEscapes", fn := fun _ => fun
  | [d1, d2] => { results := [.lit (.bool true)], args := [d1, d2] }
  | _ => none }
def textEscapesRow : OpenClaim := { program := "ytflcjniicakhgaa", sum := "99e4529f70023a0510a448095c7e702327621d8f99f94f7ec86e4677bd862bb2", func := "calends/calendslaw06.TextEscapes", spec := "textEscapes", inPlace := ["internal/reflectlite.TypeOf", "internal/abi.NoEscape", "internal/bytealg.MakeNoZero"], unfollowed := true, recurses := true, apart := false }
def TextEscapesSaid : Prop := textEscapesRow.holds Try.pinned (OpenSpec.ofChange textEscapesSpec)

/-- ITS FALSE NEIGHBOUR: 'it returns false'. Refute it at one input. -/
def textEscapesWrong : ChangeSpec := { name := "textEscapes", fn := fun _ => fun
  | [d1, d2] => { results := [.lit (.bool false)], args := [d1, d2] }
  | _ => none }
def TextEscapesWrongFalsely : Prop := textEscapesRow.holds Try.pinned (OpenSpec.ofChange textEscapesWrong)

/-- 'calendslaw06.TextLists': WHATEVER THE INPUT: true; the input reads as it did. -/
def textListsSpec : ChangeSpec := { name := "textLists", fn := fun _ => fun
  | [d1, d2] => { results := [.lit (.bool true)], args := [d1, d2] }
  | _ => none }
def textListsRow : OpenClaim := { program := "ytflcjniicakhgaa", sum := "99e4529f70023a0510a448095c7e702327621d8f99f94f7ec86e4677bd862bb2", func := "calends/calendslaw06.TextLists", spec := "textLists", inPlace := ["internal/reflectlite.TypeOf", "internal/abi.NoEscape", "internal/bytealg.MakeNoZero"], unfollowed := true, recurses := true, apart := false }
def TextListsSaid : Prop := textListsRow.holds Try.pinned (OpenSpec.ofChange textListsSpec)

/-- ITS FALSE NEIGHBOUR: 'it returns false'. Refute it at one input. -/
def textListsWrong : ChangeSpec := { name := "textLists", fn := fun _ => fun
  | [d1, d2] => { results := [.lit (.bool false)], args := [d1, d2] }
  | _ => none }
def TextListsWrongFalsely : Prop := textListsRow.holds Try.pinned (OpenSpec.ofChange textListsWrong)

/-- 'calendslaw06.TextJoins': WHATEVER THE INPUT: true; the input reads as it did. -/
def textJoinsSpec : ChangeSpec := { name := "textJoins", fn := fun _ => fun
  | [d1, d2] => { results := [.lit (.bool true)], args := [d1, d2] }
  | _ => none }
def textJoinsRow : OpenClaim := { program := "ytflcjniicakhgaa", sum := "99e4529f70023a0510a448095c7e702327621d8f99f94f7ec86e4677bd862bb2", func := "calends/calendslaw06.TextJoins", spec := "textJoins", inPlace := ["internal/reflectlite.TypeOf", "internal/abi.NoEscape", "internal/bytealg.MakeNoZero"], unfollowed := true, recurses := true, apart := false }
def TextJoinsSaid : Prop := textJoinsRow.holds Try.pinned (OpenSpec.ofChange textJoinsSpec)

/-- ITS FALSE NEIGHBOUR: 'it returns false'. Refute it at one input. -/
def textJoinsWrong : ChangeSpec := { name := "textJoins", fn := fun _ => fun
  | [d1, d2] => { results := [.lit (.bool false)], args := [d1, d2] }
  | _ => none }
def TextJoinsWrongFalsely : Prop := textJoinsRow.holds Try.pinned (OpenSpec.ofChange textJoinsWrong)

/-- 'calendslaw06.TextFields': WHATEVER THE INPUT: true; the input reads as it did. -/
def textFieldsSpec : ChangeSpec := { name := "textFields", fn := fun _ => fun
  | [d1, d2] => { results := [.lit (.bool true)], args := [d1, d2] }
  | _ => none }
def textFieldsRow : OpenClaim := { program := "ytflcjniicakhgaa", sum := "99e4529f70023a0510a448095c7e702327621d8f99f94f7ec86e4677bd862bb2", func := "calends/calendslaw06.TextFields", spec := "textFields", inPlace := ["internal/reflectlite.TypeOf", "internal/abi.NoEscape", "internal/bytealg.MakeNoZero"], unfollowed := true, recurses := true, apart := false }
def TextFieldsSaid : Prop := textFieldsRow.holds Try.pinned (OpenSpec.ofChange textFieldsSpec)

/-- ITS FALSE NEIGHBOUR: 'it returns false'. Refute it at one input. -/
def textFieldsWrong : ChangeSpec := { name := "textFields", fn := fun _ => fun
  | [d1, d2] => { results := [.lit (.bool false)], args := [d1, d2] }
  | _ => none }
def TextFieldsWrongFalsely : Prop := textFieldsRow.holds Try.pinned (OpenSpec.ofChange textFieldsWrong)

/-- 'calendslaw06.TextBack': WHATEVER THE INPUT: true; the input reads as it did. -/
def textBackSpec : ChangeSpec := { name := "textBack", fn := fun _ => fun
  | [d1, d2, d3] => { results := [.lit (.bool true)], args := [d1, d2, d3] }
  | _ => none }
def textBackRow : OpenClaim := { program := "ytflcjniicakhgaa", sum := "99e4529f70023a0510a448095c7e702327621d8f99f94f7ec86e4677bd862bb2", func := "calends/calendslaw06.TextBack", spec := "textBack", inPlace := ["internal/reflectlite.TypeOf", "internal/abi.NoEscape", "internal/bytealg.MakeNoZero"], unfollowed := true, recurses := true, apart := false }
def TextBackSaid : Prop := textBackRow.holds Try.pinned (OpenSpec.ofChange textBackSpec)

/-- ITS FALSE NEIGHBOUR: 'it returns false'. Refute it at one input. -/
def textBackWrong : ChangeSpec := { name := "textBack", fn := fun _ => fun
  | [d1, d2, d3] => { results := [.lit (.bool false)], args := [d1, d2, d3] }
  | _ => none }
def TextBackWrongFalsely : Prop := textBackRow.holds Try.pinned (OpenSpec.ofChange textBackWrong)

/-- 'calendslaw06.TextAgain': WHATEVER THE INPUT: true; the input reads as it did. -/
def textAgainSpec : ChangeSpec := { name := "textAgain", fn := fun _ => fun
  | [d] => { results := [.lit (.bool true)], args := [d] }
  | _ => none }
def textAgainRow : OpenClaim := { program := "ytflcjniicakhgaa", sum := "99e4529f70023a0510a448095c7e702327621d8f99f94f7ec86e4677bd862bb2", func := "calends/calendslaw06.TextAgain", spec := "textAgain", inPlace := ["internal/reflectlite.TypeOf", "internal/abi.NoEscape", "internal/bytealg.MakeNoZero"], unfollowed := true, recurses := true, apart := false }
def TextAgainSaid : Prop := textAgainRow.holds Try.pinned (OpenSpec.ofChange textAgainSpec)

/-- ITS FALSE NEIGHBOUR: 'it returns false'. Refute it at one input. -/
def textAgainWrong : ChangeSpec := { name := "textAgain", fn := fun _ => fun
  | [d] => { results := [.lit (.bool false)], args := [d] }
  | _ => none }
def TextAgainWrongFalsely : Prop := textAgainRow.holds Try.pinned (OpenSpec.ofChange textAgainWrong)

/- THE SECOND FORM. 'bulk': how many values and letters a reading holds, each counted each time it is reached (what is shared counts as often as it is met; a slice's spare places count too). A statement '..UptoSaid' is the law's where the arguments, and the package variables that the reading takes, are together of bulk at most 1048576: NARROWER than '..Said'. Prove '..Said' where nothing that the law and all that it calls make is longer than what came in: it says more and counts as full. Else prove '..UptoSaid'. A law counts once. -/
mutual
def uptoBulk {H : Type} : DataW H → Nat
  | .lit (.string bytes) => bytes.length + 1
  | .lit _ => 1
  | .nil => 1
  | .ptr d => uptoBulk d + 1
  | .slice elems spare => uptoBulkAll elems + uptoBulkAll spare + 1
  | .agg parts => uptoBulkAll parts + 1
  | .iface _ d => uptoBulk d + 1
  | .map entries => uptoBulkEntries entries + 1
  | .held _ => 1
def uptoBulkAll {H : Type} : List (DataW H) → Nat
  | [] => 0
  | d :: r => uptoBulk d + uptoBulkAll r
def uptoBulkEntries {H : Type} : List (Lit × DataW H) → Nat
  | [] => 0
  | x :: r => uptoBulkEntry x + uptoBulkEntries r
def uptoBulkEntry {H : Type} : Lit × DataW H → Nat
  | (.string bytes, d) => bytes.length + uptoBulk d + 1
  | (_, d) => uptoBulk d + 1
 end
def uptoSmall : (H : Type) → List (DataW H) → Bool := fun _ ds => decide (uptoBulkAll ds ≤ 1048576)
def OpenSpec.upto (s : _root_.Go.ChangeSpec) : _root_.Go.OpenSpec := { _root_.Go.OpenSpec.ofChange s with cond := some uptoSmall }

/-- 'calendslaw06.TextEscapes', WHERE WHAT IT READS IS OF BULK AT MOST 1048576: true; the input reads as it did. -/
def textEscapesUptoRow : OpenClaim := { program := "ytflcjniicakhgaa", sum := "99e4529f70023a0510a448095c7e702327621d8f99f94f7ec86e4677bd862bb2", func := "calends/calendslaw06.TextEscapes", spec := "textEscapes", inPlace := ["internal/reflectlite.TypeOf", "internal/abi.NoEscape", "internal/bytealg.MakeNoZero"], unfollowed := true, recurses := true, apart := false, narrowed := true }
def TextEscapesUptoSaid : Prop := textEscapesUptoRow.holds Try.pinned (OpenSpec.upto textEscapesSpec)

/-- 'calendslaw06.TextLists', WHERE WHAT IT READS IS OF BULK AT MOST 1048576: true; the input reads as it did. -/
def textListsUptoRow : OpenClaim := { program := "ytflcjniicakhgaa", sum := "99e4529f70023a0510a448095c7e702327621d8f99f94f7ec86e4677bd862bb2", func := "calends/calendslaw06.TextLists", spec := "textLists", inPlace := ["internal/reflectlite.TypeOf", "internal/abi.NoEscape", "internal/bytealg.MakeNoZero"], unfollowed := true, recurses := true, apart := false, narrowed := true }
def TextListsUptoSaid : Prop := textListsUptoRow.holds Try.pinned (OpenSpec.upto textListsSpec)

/-- 'calendslaw06.TextJoins', WHERE WHAT IT READS IS OF BULK AT MOST 1048576: true; the input reads as it did. -/
def textJoinsUptoRow : OpenClaim := { program := "ytflcjniicakhgaa", sum := "99e4529f70023a0510a448095c7e702327621d8f99f94f7ec86e4677bd862bb2", func := "calends/calendslaw06.TextJoins", spec := "textJoins", inPlace := ["internal/reflectlite.TypeOf", "internal/abi.NoEscape", "internal/bytealg.MakeNoZero"], unfollowed := true, recurses := true, apart := false, narrowed := true }
def TextJoinsUptoSaid : Prop := textJoinsUptoRow.holds Try.pinned (OpenSpec.upto textJoinsSpec)

/-- 'calendslaw06.TextFields', WHERE WHAT IT READS IS OF BULK AT MOST 1048576: true; the input reads as it did. -/
def textFieldsUptoRow : OpenClaim := { program := "ytflcjniicakhgaa", sum := "99e4529f70023a0510a448095c7e702327621d8f99f94f7ec86e4677bd862bb2", func := "calends/calendslaw06.TextFields", spec := "textFields", inPlace := ["internal/reflectlite.TypeOf", "internal/abi.NoEscape", "internal/bytealg.MakeNoZero"], unfollowed := true, recurses := true, apart := false, narrowed := true }
def TextFieldsUptoSaid : Prop := textFieldsUptoRow.holds Try.pinned (OpenSpec.upto textFieldsSpec)

/-- 'calendslaw06.TextBack', WHERE WHAT IT READS IS OF BULK AT MOST 1048576: true; the input reads as it did. -/
def textBackUptoRow : OpenClaim := { program := "ytflcjniicakhgaa", sum := "99e4529f70023a0510a448095c7e702327621d8f99f94f7ec86e4677bd862bb2", func := "calends/calendslaw06.TextBack", spec := "textBack", inPlace := ["internal/reflectlite.TypeOf", "internal/abi.NoEscape", "internal/bytealg.MakeNoZero"], unfollowed := true, recurses := true, apart := false, narrowed := true }
def TextBackUptoSaid : Prop := textBackUptoRow.holds Try.pinned (OpenSpec.upto textBackSpec)

/-- 'calendslaw06.TextAgain', WHERE WHAT IT READS IS OF BULK AT MOST 1048576: true; the input reads as it did. -/
def textAgainUptoRow : OpenClaim := { program := "ytflcjniicakhgaa", sum := "99e4529f70023a0510a448095c7e702327621d8f99f94f7ec86e4677bd862bb2", func := "calends/calendslaw06.TextAgain", spec := "textAgain", inPlace := ["internal/reflectlite.TypeOf", "internal/abi.NoEscape", "internal/bytealg.MakeNoZero"], unfollowed := true, recurses := true, apart := false, narrowed := true }
def TextAgainUptoSaid : Prop := textAgainUptoRow.holds Try.pinned (OpenSpec.upto textAgainSpec)

end Rows
end Go.Proofs.Ytflcjniicakhgaa
