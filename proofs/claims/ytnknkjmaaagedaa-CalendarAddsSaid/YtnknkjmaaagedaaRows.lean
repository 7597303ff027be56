/-
  No cell of these rows narrows 'for every input' (looked for: loops, veiled, ifaces, maps, wideKeys, modest, calm, conditions, laid).
  DERIVED. THE GIVEN ROWS OF THIS SEAT. 5 by the template 'for every input the law returns true; each argument reads behind the call as it read before'; 0 by the template 'total and deterministic' (their statements: YtnknkjmaaagedaaTotals.lean).
  GIVEN WITH THE SEED: the statements are not yours to turn. If you find one false, say at which input.
  Laid BY PROGRAM, IN A SANDBOX (cutbox-rows.mjs): the forced cells as the released guide's own fill.sh prints them over the translation 2265801ef10e5362… (all of the seat's roots in one cut). By AI agents, Wed Nov 11 2026. No macro, syntax, notation, axiom, sorry.
-/
import Derived.Test.YtnknkjmaaagedaaChecked
import GoSem.Claim
import GoSem.ClaimJoined
import GoSem.ClaimMapViews
import Derived.JoinedTies
import Derived.KernelRfl
namespace Go.Proofs.Ytnknkjmaaagedaa
/- THE CELL 'sum', in the pinned program and in every row, IS THE sha256 OF THE DUMP (.gsa) THAT YtnknkjmaaagedaaProg.lean LOADS. Nothing in Lean hashes anything: it is a label: what it is worth is what the hold of that sum in a sandbox is worth. -/
noncomputable def Try.pinned : Pinned := { name := "ytnknkjmaaagedaa", sum := "2265801ef10e5362e4d872e615274be9cbca74f0205626b95ffc9eba734911e7", checked := Try.checked }
namespace Rows
def none {H : Type} : Left H := { results := [], args := [] }

/-- 'kerbsidelaw07.CalendarTells': WHATEVER THE INPUT: true; the input reads as it did. -/
def calendarTellsSpec : ChangeSpec := { name := "calendarTells", fn := fun _ => fun
  | [d1, d2, d3] => { results := [.lit (.bool true)], args := [d1, d2, d3] }
  | _ => none }
def calendarTellsRow : OpenClaim := { program := "ytnknkjmaaagedaa", sum := "2265801ef10e5362e4d872e615274be9cbca74f0205626b95ffc9eba734911e7", func := "kerbside/kerbsidelaw07.CalendarTells", spec := "calendarTells", apart := false }
def CalendarTellsSaid : Prop := calendarTellsRow.holds Try.pinned (OpenSpec.ofChange calendarTellsSpec)

/-- ITS FALSE NEIGHBOUR: 'it returns false'. Refute it at one input. -/
def calendarTellsWrong : ChangeSpec := { name := "calendarTells", fn := fun _ => fun
  | [d1, d2, d3] => { results := [.lit (.bool false)], args := [d1, d2, d3] }
  | _ => none }
def CalendarTellsWrongFalsely : Prop := calendarTellsRow.holds Try.pinned (OpenSpec.ofChange calendarTellsWrong)

/-- 'kerbsidelaw07.CalendarBack': WHATEVER THE INPUT: true; the input reads as it did. -/
def calendarBackSpec : ChangeSpec := { name := "calendarBack", fn := fun _ => fun
  | [d1, d2, d3, d4, d5] => { results := [.lit (.bool true)], args := [d1, d2, d3, d4, d5] }
  | _ => none }
def calendarBackRow : OpenClaim := { program := "ytnknkjmaaagedaa", sum := "2265801ef10e5362e4d872e615274be9cbca74f0205626b95ffc9eba734911e7", func := "kerbside/kerbsidelaw07.CalendarBack", spec := "calendarBack", apart := false }
def CalendarBackSaid : Prop := calendarBackRow.holds Try.pinned (OpenSpec.ofChange calendarBackSpec)

/-- ITS FALSE NEIGHBOUR: 'it returns false'. Refute it at one input. -/
def calendarBackWrong : ChangeSpec := { name := "calendarBack", fn := fun _ => fun
  | [d1, d2, d3, d4, d5] => { results := [.lit (.bool false)], args := [d1, d2, d3, d4, d5] }
  | _ => none }
def CalendarBackWrongFalsely : Prop := calendarBackRow.holds Try.pinned (OpenSpec.ofChange calendarBackWrong)

/-- 'kerbsidelaw07.CalendarWeeks': WHATEVER THE INPUT: true; the input reads as it did. -/
def calendarWeeksSpec : ChangeSpec := { name := "calendarWeeks", fn := fun _ => fun
  | [d] => { results := [.lit (.bool true)], args := [d] }
  | _ => none }
def calendarWeeksRow : OpenClaim := { program := "ytnknkjmaaagedaa", sum := "2265801ef10e5362e4d872e615274be9cbca74f0205626b95ffc9eba734911e7", func := "kerbside/kerbsidelaw07.CalendarWeeks", spec := "calendarWeeks", apart := false }
def CalendarWeeksSaid : Prop := calendarWeeksRow.holds Try.pinned (OpenSpec.ofChange calendarWeeksSpec)

/-- ITS FALSE NEIGHBOUR: 'it returns false'. Refute it at one input. -/
def calendarWeeksWrong : ChangeSpec := { name := "calendarWeeks", fn := fun _ => fun
  | [d] => { results := [.lit (.bool false)], args := [d] }
  | _ => none }
def CalendarWeeksWrongFalsely : Prop := calendarWeeksRow.holds Try.pinned (OpenSpec.ofChange calendarWeeksWrong)

/-- 'kerbsidelaw07.CalendarMonths': WHATEVER THE INPUT: true; the input reads as it did. -/
def calendarMonthsSpec : ChangeSpec := { name := "calendarMonths", fn := fun _ => fun
  | [d1, d2] => { results := [.lit (.bool true)], args := [d1, d2] }
  | _ => none }
def calendarMonthsRow : OpenClaim := { program := "ytnknkjmaaagedaa", sum := "2265801ef10e5362e4d872e615274be9cbca74f0205626b95ffc9eba734911e7", func := "kerbside/kerbsidelaw07.CalendarMonths", spec := "calendarMonths", apart := false }
def CalendarMonthsSaid : Prop := calendarMonthsRow.holds Try.pinned (OpenSpec.ofChange calendarMonthsSpec)

/-- ITS FALSE NEIGHBOUR: 'it returns false'. Refute it at one input. -/
def calendarMonthsWrong : ChangeSpec := { name := "calendarMonths", fn := fun _ => fun
  | [d1, d2] => { results := [.lit (.bool false)], args := [d1, d2] }
  | _ => none }
def CalendarMonthsWrongFalsely : Prop := calendarMonthsRow.holds Try.pinned (OpenSpec.ofChange calendarMonthsWrong)

/-- 'kerbsidelaw07.CalendarAdds': WHATEVER THE INPUT: true; the input reads as it did. -/
def calendarAddsSpec : ChangeSpec := { name := "calendarAdds", fn := fun _ => fun
  | [d1, d2, d3, d4] => { results := [.lit (.bool true)], args := [d1, d2, d3, d4] }
  | _ => none }
def calendarAddsRow : OpenClaim := { program := "ytnknkjmaaagedaa", sum := "2265801ef10e5362e4d872e615274be9cbca74f0205626b95ffc9eba734911e7", func := "kerbside/kerbsidelaw07.CalendarAdds", spec := "calendarAdds", apart := false }
def CalendarAddsSaid : Prop := calendarAddsRow.holds Try.pinned (OpenSpec.ofChange calendarAddsSpec)

/-- ITS FALSE NEIGHBOUR: 'it returns false'. Refute it at one input. -/
def calendarAddsWrong : ChangeSpec := { name := "calendarAdds", fn := fun _ => fun
  | [d1, d2, d3, d4] => { results := [.lit (.bool false)], args := [d1, d2, d3, d4] }
  | _ => none }
def CalendarAddsWrongFalsely : Prop := calendarAddsRow.holds Try.pinned (OpenSpec.ofChange calendarAddsWrong)

/- THE SECOND FORM. 'bulk': how many values and letters a reading holds, each counted each time it is reached (what is shared counts as often as it is met; a slice's spare places count too). A statement '..UptoSaid' is the law's where the arguments, and the package variables that the reading takes, are together of bulk at most 1048576: NARROWER than '..Said'. Prove '..Said' where nothing that the law and all that it calls make is longer than what came in: it says more and counts as full. Else prove '..UptoSaid'. A law counts once. -/
mutual
def uptoBulk {H : Type} : DataW H → Nat
  | .lit (.string bytes) => bytes.length + 1
  | .lit _ => 1
  | .nil => 1
  | .ptr d => uptoBulk d + 1
  | .slice elems spare => uptoBulkAll elems + uptoBulkAll spare + 1
  | .agg parts => uptoBulkAll parts + 1
  | .iface _ d => uptoBulk d + 1
  | .map entries => uptoBulkEntries entries + 1
  | .held _ => 1
def uptoBulkAll {H : Type} : List (DataW H) → Nat
  | [] => 0
  | d :: r => uptoBulk d + uptoBulkAll r
def uptoBulkEntries {H : Type} : List (Lit × DataW H) → Nat
  | [] => 0
  | x :: r => uptoBulkEntry x + uptoBulkEntries r
def uptoBulkEntry {H : Type} : Lit × DataW H → Nat
  | (.string bytes, d) => bytes.length + uptoBulk d + 1
  | (_, d) => uptoBulk d + 1
 end
def uptoSmall : (H : Type) → List (DataW H) → Bool := fun _ ds => decide (uptoBulkAll ds ≤ 1048576)
def OpenSpec.upto (s : _root_.Go.ChangeSpec) : _root_.Go.OpenSpec := { _root_.Go.OpenSpec.ofChange s with cond := some uptoSmall }

/-- 'kerbsidelaw07.CalendarTells', WHERE WHAT IT READS IS OF BULK AT MOST 1048576: true; the input reads as it did. -/
def calendarTellsUptoRow : OpenClaim := { program := "ytnknkjmaaagedaa", sum := "2265801ef10e5362e4d872e615274be9cbca74f0205626b95ffc9eba734911e7", func := "kerbside/kerbsidelaw07.CalendarTells", spec := "calendarTells", apart := false, narrowed := true }
def CalendarTellsUptoSaid : Prop := calendarTellsUptoRow.holds Try.pinned (OpenSpec.upto calendarTellsSpec)

/-- 'kerbsidelaw07.CalendarBack', WHERE WHAT IT READS IS OF BULK AT MOST 1048576: true; the input reads as it did. -/
def calendarBackUptoRow : OpenClaim := { program := "ytnknkjmaaagedaa", sum := "2265801ef10e5362e4d872e615274be9cbca74f0205626b95ffc9eba734911e7", func := "kerbside/kerbsidelaw07.CalendarBack", spec := "calendarBack", apart := false, narrowed := true }
def CalendarBackUptoSaid : Prop := calendarBackUptoRow.holds Try.pinned (OpenSpec.upto calendarBackSpec)

/-- 'kerbsidelaw07.CalendarWeeks', WHERE WHAT IT READS IS OF BULK AT MOST 1048576: true; the input reads as it did. -/
def calendarWeeksUptoRow : OpenClaim := { program := "ytnknkjmaaagedaa", sum := "2265801ef10e5362e4d872e615274be9cbca74f0205626b95ffc9eba734911e7", func := "kerbside/kerbsidelaw07.CalendarWeeks", spec := "calendarWeeks", apart := false, narrowed := true }
def CalendarWeeksUptoSaid : Prop := calendarWeeksUptoRow.holds Try.pinned (OpenSpec.upto calendarWeeksSpec)

/-- 'kerbsidelaw07.CalendarMonths', WHERE WHAT IT READS IS OF BULK AT MOST 1048576: true; the input reads as it did. -/
def calendarMonthsUptoRow : OpenClaim := { program := "ytnknkjmaaagedaa", sum := "2265801ef10e5362e4d872e615274be9cbca74f0205626b95ffc9eba734911e7", func := "kerbside/kerbsidelaw07.CalendarMonths", spec := "calendarMonths", apart := false, narrowed := true }
def CalendarMonthsUptoSaid : Prop := calendarMonthsUptoRow.holds Try.pinned (OpenSpec.upto calendarMonthsSpec)

/-- 'kerbsidelaw07.CalendarAdds', WHERE WHAT IT READS IS OF BULK AT MOST 1048576: true; the input reads as it did. -/
def calendarAddsUptoRow : OpenClaim := { program := "ytnknkjmaaagedaa", sum := "2265801ef10e5362e4d872e615274be9cbca74f0205626b95ffc9eba734911e7", func := "kerbside/kerbsidelaw07.CalendarAdds", spec := "calendarAdds", apart := false, narrowed := true }
def CalendarAddsUptoSaid : Prop := calendarAddsUptoRow.holds Try.pinned (OpenSpec.upto calendarAddsSpec)

end Rows
end Go.Proofs.Ytnknkjmaaagedaa
