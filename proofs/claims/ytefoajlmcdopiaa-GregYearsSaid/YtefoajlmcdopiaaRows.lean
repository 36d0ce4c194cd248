/-
  No cell of these rows narrows 'for every input' (looked for: loops, veiled, ifaces, maps, wideKeys, modest, calm, conditions, laid).
  DERIVED. THE GIVEN ROWS OF THIS SEAT. 6 by the template 'for every input the law returns true; each argument reads behind the call as it read before'; 0 by the template 'total and deterministic' (their statements: YtefoajlmcdopiaaTotals.lean).
  GIVEN WITH THE SEED: the statements are not yours to turn. If you find one false, say at which input.
  Laid BY PROGRAM, IN A SANDBOX (cutbox-rows.mjs): the forced cells as the released guide's own fill.sh prints them over the translation 3e5c46746389d2d0… (all of the seat's roots in one cut). By AI agents, Wed Nov 11 2026. No macro, syntax, notation, axiom, sorry.
-/
import Derived.Test.YtefoajlmcdopiaaChecked
import GoSem.Claim
import GoSem.ClaimJoined
import GoSem.ClaimMapViews
import Derived.JoinedTies
import Derived.KernelRfl
namespace Go.Proofs.Ytefoajlmcdopiaa
/- THE CELL 'sum', in the pinned program and in every row, IS THE sha256 OF THE DUMP (.gsa) THAT YtefoajlmcdopiaaProg.lean LOADS. Nothing in Lean hashes anything: it is a label: what it is worth is what the hold of that sum in a sandbox is worth. -/
noncomputable def Try.pinned : Pinned := { name := "ytefoajlmcdopiaa", sum := "3e5c46746389d2d055b785f8012ece3a54d260714dfcda9d613c35ad4b25b196", checked := Try.checked }
namespace Rows
def none {H : Type} : Left H := { results := [], args := [] }

/-- 'calendslaw08.GregTurns': WHATEVER THE INPUT: true; the input reads as it did. -/
def gregTurnsSpec : ChangeSpec := { name := "gregTurns", fn := fun _ => fun
  | [d1, d2] => { results := [.lit (.bool true)], args := [d1, d2] }
  | _ => none }
def gregTurnsRow : OpenClaim := { program := "ytefoajlmcdopiaa", sum := "3e5c46746389d2d055b785f8012ece3a54d260714dfcda9d613c35ad4b25b196", func := "calends/calendslaw08.GregTurns", spec := "gregTurns", inPlace := ["internal/reflectlite.TypeOf"], unfollowed := true, recurses := true, apart := false }
def GregTurnsSaid : Prop := gregTurnsRow.holds Try.pinned (OpenSpec.ofChange gregTurnsSpec)

/-- ITS FALSE NEIGHBOUR: 'it returns false'. Refute it at one input. -/
def gregTurnsWrong : ChangeSpec := { name := "gregTurns", fn := fun _ => fun
  | [d1, d2] => { results := [.lit (.bool false)], args := [d1, d2] }
  | _ => none }
def GregTurnsWrongFalsely : Prop := gregTurnsRow.holds Try.pinned (OpenSpec.ofChange gregTurnsWrong)

/-- 'calendslaw08.GregDays': WHATEVER THE INPUT: true; the input reads as it did. -/
def gregDaysSpec : ChangeSpec := { name := "gregDays", fn := fun _ => fun
  | [d1, d2] => { results := [.lit (.bool true)], args := [d1, d2] }
  | _ => none }
def gregDaysRow : OpenClaim := { program := "ytefoajlmcdopiaa", sum := "3e5c46746389d2d055b785f8012ece3a54d260714dfcda9d613c35ad4b25b196", func := "calends/calendslaw08.GregDays", spec := "gregDays", inPlace := ["internal/reflectlite.TypeOf"], unfollowed := true, recurses := true, apart := false }
def GregDaysSaid : Prop := gregDaysRow.holds Try.pinned (OpenSpec.ofChange gregDaysSpec)

/-- ITS FALSE NEIGHBOUR: 'it returns false'. Refute it at one input. -/
def gregDaysWrong : ChangeSpec := { name := "gregDays", fn := fun _ => fun
  | [d1, d2] => { results := [.lit (.bool false)], args := [d1, d2] }
  | _ => none }
def GregDaysWrongFalsely : Prop := gregDaysRow.holds Try.pinned (OpenSpec.ofChange gregDaysWrong)

/-- 'calendslaw08.GregWeeks': WHATEVER THE INPUT: true; the input reads as it did. -/
def gregWeeksSpec : ChangeSpec := { name := "gregWeeks", fn := fun _ => fun
  | [d1, d2, d3] => { results := [.lit (.bool true)], args := [d1, d2, d3] }
  | _ => none }
def gregWeeksRow : OpenClaim := { program := "ytefoajlmcdopiaa", sum := "3e5c46746389d2d055b785f8012ece3a54d260714dfcda9d613c35ad4b25b196", func := "calends/calendslaw08.GregWeeks", spec := "gregWeeks", inPlace := ["internal/reflectlite.TypeOf"], unfollowed := true, recurses := true, apart := false }
def GregWeeksSaid : Prop := gregWeeksRow.holds Try.pinned (OpenSpec.ofChange gregWeeksSpec)

/-- ITS FALSE NEIGHBOUR: 'it returns false'. Refute it at one input. -/
def gregWeeksWrong : ChangeSpec := { name := "gregWeeks", fn := fun _ => fun
  | [d1, d2, d3] => { results := [.lit (.bool false)], args := [d1, d2, d3] }
  | _ => none }
def GregWeeksWrongFalsely : Prop := gregWeeksRow.holds Try.pinned (OpenSpec.ofChange gregWeeksWrong)

/-- 'calendslaw08.GregSeven': WHATEVER THE INPUT: true; the input reads as it did. -/
def gregSevenSpec : ChangeSpec := { name := "gregSeven", fn := fun _ => fun
  | [d1, d2] => { results := [.lit (.bool true)], args := [d1, d2] }
  | _ => none }
def gregSevenRow : OpenClaim := { program := "ytefoajlmcdopiaa", sum := "3e5c46746389d2d055b785f8012ece3a54d260714dfcda9d613c35ad4b25b196", func := "calends/calendslaw08.GregSeven", spec := "gregSeven", inPlace := ["internal/reflectlite.TypeOf"], unfollowed := true, recurses := true, apart := false }
def GregSevenSaid : Prop := gregSevenRow.holds Try.pinned (OpenSpec.ofChange gregSevenSpec)

/-- ITS FALSE NEIGHBOUR: 'it returns false'. Refute it at one input. -/
def gregSevenWrong : ChangeSpec := { name := "gregSeven", fn := fun _ => fun
  | [d1, d2] => { results := [.lit (.bool false)], args := [d1, d2] }
  | _ => none }
def GregSevenWrongFalsely : Prop := gregSevenRow.holds Try.pinned (OpenSpec.ofChange gregSevenWrong)

/-- 'calendslaw08.GregPlus': WHATEVER THE INPUT: true; the input reads as it did. -/
def gregPlusSpec : ChangeSpec := { name := "gregPlus", fn := fun _ => fun
  | [d1, d2, d3] => { results := [.lit (.bool true)], args := [d1, d2, d3] }
  | _ => none }
def gregPlusRow : OpenClaim := { program := "ytefoajlmcdopiaa", sum := "3e5c46746389d2d055b785f8012ece3a54d260714dfcda9d613c35ad4b25b196", func := "calends/calendslaw08.GregPlus", spec := "gregPlus", inPlace := ["internal/reflectlite.TypeOf"], unfollowed := true, recurses := true, apart := false }
def GregPlusSaid : Prop := gregPlusRow.holds Try.pinned (OpenSpec.ofChange gregPlusSpec)

/-- ITS FALSE NEIGHBOUR: 'it returns false'. Refute it at one input. -/
def gregPlusWrong : ChangeSpec := { name := "gregPlus", fn := fun _ => fun
  | [d1, d2, d3] => { results := [.lit (.bool false)], args := [d1, d2, d3] }
  | _ => none }
def GregPlusWrongFalsely : Prop := gregPlusRow.holds Try.pinned (OpenSpec.ofChange gregPlusWrong)

/-- 'calendslaw08.GregYears': WHATEVER THE INPUT: true; the input reads as it did. -/
def gregYearsSpec : ChangeSpec := { name := "gregYears", fn := fun _ => fun
  | [d] => { results := [.lit (.bool true)], args := [d] }
  | _ => none }
def gregYearsRow : OpenClaim := { program := "ytefoajlmcdopiaa", sum := "3e5c46746389d2d055b785f8012ece3a54d260714dfcda9d613c35ad4b25b196", func := "calends/calendslaw08.GregYears", spec := "gregYears", inPlace := ["internal/reflectlite.TypeOf"], unfollowed := true, recurses := true, apart := false }
def GregYearsSaid : Prop := gregYearsRow.holds Try.pinned (OpenSpec.ofChange gregYearsSpec)

/-- ITS FALSE NEIGHBOUR: 'it returns false'. Refute it at one input. -/
def gregYearsWrong : ChangeSpec := { name := "gregYears", fn := fun _ => fun
  | [d] => { results := [.lit (.bool false)], args := [d] }
  | _ => none }
def GregYearsWrongFalsely : Prop := gregYearsRow.holds Try.pinned (OpenSpec.ofChange gregYearsWrong)

/- THE SECOND FORM. 'bulk': how many values and letters a reading holds, each counted each time it is reached (what is shared counts as often as it is met; a slice's spare places count too). A statement '..UptoSaid' is the law's where the arguments, and the package variables that the reading takes, are together of bulk at most 1048576: NARROWER than '..Said'. Prove '..Said' where nothing that the law and all that it calls make is longer than what came in: it says more and counts as full. Else prove '..UptoSaid'. A law counts once. -/
mutual
def uptoBulk {H : Type} : DataW H → Nat
  | .lit (.string bytes) => bytes.length + 1
  | .lit _ => 1
  | .nil => 1
  | .ptr d => uptoBulk d + 1
  | .slice elems spare => uptoBulkAll elems + uptoBulkAll spare + 1
  | .agg parts => uptoBulkAll parts + 1
  | .iface _ d => uptoBulk d + 1
  | .map entries => uptoBulkEntries entries + 1
  | .held _ => 1
def uptoBulkAll {H : Type} : List (DataW H) → Nat
  | [] => 0
  | d :: r => uptoBulk d + uptoBulkAll r
def uptoBulkEntries {H : Type} : List (Lit × DataW H) → Nat
  | [] => 0
  | x :: r => uptoBulkEntry x + uptoBulkEntries r
def uptoBulkEntry {H : Type} : Lit × DataW H → Nat
  | (.string bytes, d) => bytes.length + uptoBulk d + 1
  | (_, d) => uptoBulk d + 1
 end
def uptoSmall : (H : Type) → List (DataW H) → Bool := fun _ ds => decide (uptoBulkAll ds ≤ 1048576)
def OpenSpec.upto (s : _root_.Go.ChangeSpec) : _root_.Go.OpenSpec := { _root_.Go.OpenSpec.ofChange s with cond := some uptoSmall }

/-- 'calendslaw08.GregTurns', WHERE WHAT IT READS IS OF BULK AT MOST 1048576: true; the input reads as it did. -/
def gregTurnsUptoRow : OpenClaim := { program := "ytefoajlmcdopiaa", sum := "3e5c46746389d2d055b785f8012ece3a54d260714dfcda9d613c35ad4b25b196", func := "calends/calendslaw08.GregTurns", spec := "gregTurns", inPlace := ["internal/reflectlite.TypeOf"], unfollowed := true, recurses := true, apart := false, narrowed := true }
def GregTurnsUptoSaid : Prop := gregTurnsUptoRow.holds Try.pinned (OpenSpec.upto gregTurnsSpec)

/-- 'calendslaw08.GregDays', WHERE WHAT IT READS IS OF BULK AT MOST 1048576: true; the input reads as it did. -/
def gregDaysUptoRow : OpenClaim := { program := "ytefoajlmcdopiaa", sum := "3e5c46746389d2d055b785f8012ece3a54d260714dfcda9d613c35ad4b25b196", func := "calends/calendslaw08.GregDays", spec := "gregDays", inPlace := ["internal/reflectlite.TypeOf"], unfollowed := true, recurses := true, apart := false, narrowed := true }
def GregDaysUptoSaid : Prop := gregDaysUptoRow.holds Try.pinned (OpenSpec.upto gregDaysSpec)

/-- 'calendslaw08.GregWeeks', WHERE WHAT IT READS IS OF BULK AT MOST 1048576: true; the input reads as it did. -/
def gregWeeksUptoRow : OpenClaim := { program := "ytefoajlmcdopiaa", sum := "3e5c46746389d2d055b785f8012ece3a54d260714dfcda9d613c35ad4b25b196", func := "calends/calendslaw08.GregWeeks", spec := "gregWeeks", inPlace := ["internal/reflectlite.TypeOf"], unfollowed := true, recurses := true, apart := false, narrowed := true }
def GregWeeksUptoSaid : Prop := gregWeeksUptoRow.holds Try.pinned (OpenSpec.upto gregWeeksSpec)

/-- 'calendslaw08.GregSeven', WHERE WHAT IT READS IS OF BULK AT MOST 1048576: true; the input reads as it did. -/
def gregSevenUptoRow : OpenClaim := { program := "ytefoajlmcdopiaa", sum := "3e5c46746389d2d055b785f8012ece3a54d260714dfcda9d613c35ad4b25b196", func := "calends/calendslaw08.GregSeven", spec := "gregSeven", inPlace := ["internal/reflectlite.TypeOf"], unfollowed := true, recurses := true, apart := false, narrowed := true }
def GregSevenUptoSaid : Prop := gregSevenUptoRow.holds Try.pinned (OpenSpec.upto gregSevenSpec)

/-- 'calendslaw08.GregPlus', WHERE WHAT IT READS IS OF BULK AT MOST 1048576: true; the input reads as it did. -/
def gregPlusUptoRow : OpenClaim := { program := "ytefoajlmcdopiaa", sum := "3e5c46746389d2d055b785f8012ece3a54d260714dfcda9d613c35ad4b25b196", func := "calends/calendslaw08.GregPlus", spec := "gregPlus", inPlace := ["internal/reflectlite.TypeOf"], unfollowed := true, recurses := true, apart := false, narrowed := true }
def GregPlusUptoSaid : Prop := gregPlusUptoRow.holds Try.pinned (OpenSpec.upto gregPlusSpec)

/-- 'calendslaw08.GregYears', WHERE WHAT IT READS IS OF BULK AT MOST 1048576: true; the input reads as it did. -/
def gregYearsUptoRow : OpenClaim := { program := "ytefoajlmcdopiaa", sum := "3e5c46746389d2d055b785f8012ece3a54d260714dfcda9d613c35ad4b25b196", func := "calends/calendslaw08.GregYears", spec := "gregYears", inPlace := ["internal/reflectlite.TypeOf"], unfollowed := true, recurses := true, apart := false, narrowed := true }
def GregYearsUptoSaid : Prop := gregYearsUptoRow.holds Try.pinned (OpenSpec.upto gregYearsSpec)

end Rows
end Go.Proofs.Ytefoajlmcdopiaa
