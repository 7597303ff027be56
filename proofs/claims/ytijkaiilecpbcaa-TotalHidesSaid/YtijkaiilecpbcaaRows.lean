/-
  No cell of these rows narrows 'for every input' (looked for: loops, veiled, ifaces, maps, wideKeys, modest, calm, conditions, laid).
  DERIVED. THE GIVEN ROWS OF THIS SEAT. 4 by the template 'for every input the law returns true; each argument reads behind the call as it read before'; 0 by the template 'total and deterministic' (their statements: YtijkaiilecpbcaaTotals.lean).
  GIVEN WITH THE SEED: the statements are not yours to turn. If you find one false, say at which input.
  Laid BY PROGRAM, IN A SANDBOX (cutbox-rows.mjs): the forced cells as the released guide's own fill.sh prints them over the translation a54e5a4f348d0442… (all of the seat's roots in one cut). By AI agents, Wed Nov 11 2026. No macro, syntax, notation, axiom, sorry.
-/
import Derived.Test.YtijkaiilecpbcaaChecked
import GoSem.Claim
import GoSem.ClaimJoined
import GoSem.ClaimMapViews
import Derived.JoinedTies
import Derived.KernelRfl
namespace Go.Proofs.Ytijkaiilecpbcaa
/- THE CELL 'sum', in the pinned program and in every row, IS THE sha256 OF THE DUMP (.gsa) THAT YtijkaiilecpbcaaProg.lean LOADS. Nothing in Lean hashes anything: it is a label: what it is worth is what the hold of that sum in a sandbox is worth. -/
noncomputable def Try.pinned : Pinned := { name := "ytijkaiilecpbcaa", sum := "a54e5a4f348d0442a9d8d43d8fc25fd49d1318a5a5d33ad580415b3b549d8edc", checked := Try.checked }
namespace Rows
def none {H : Type} : Left H := { results := [], args := [] }

/-- 'kerbsidelaw48.TotalWhole': WHATEVER THE INPUT: true; the input reads as it did. -/
def totalWholeSpec : ChangeSpec := { name := "totalWhole", fn := fun _ => fun
  | [d1, d2, d3, d4] => { results := [.lit (.bool true)], args := [d1, d2, d3, d4] }
  | _ => none }
def totalWholeRow : OpenClaim := { program := "ytijkaiilecpbcaa", sum := "a54e5a4f348d0442a9d8d43d8fc25fd49d1318a5a5d33ad580415b3b549d8edc", func := "kerbside/kerbsidelaw48.TotalWhole", spec := "totalWhole", unfollowed := true, recurses := true, apart := false }
def TotalWholeSaid : Prop := totalWholeRow.holds Try.pinned (OpenSpec.ofChange totalWholeSpec)

/-- ITS FALSE NEIGHBOUR: 'it returns false'. Refute it at one input. -/
def totalWholeWrong : ChangeSpec := { name := "totalWhole", fn := fun _ => fun
  | [d1, d2, d3, d4] => { results := [.lit (.bool false)], args := [d1, d2, d3, d4] }
  | _ => none }
def TotalWholeWrongFalsely : Prop := totalWholeRow.holds Try.pinned (OpenSpec.ofChange totalWholeWrong)

/-- 'kerbsidelaw48.TotalBounds': WHATEVER THE INPUT: true; the input reads as it did. -/
def totalBoundsSpec : ChangeSpec := { name := "totalBounds", fn := fun _ => fun
  | [d1, d2, d3, d4, d5, d6, d7] => { results := [.lit (.bool true)], args := [d1, d2, d3, d4, d5, d6, d7] }
  | _ => none }
def totalBoundsRow : OpenClaim := { program := "ytijkaiilecpbcaa", sum := "a54e5a4f348d0442a9d8d43d8fc25fd49d1318a5a5d33ad580415b3b549d8edc", func := "kerbside/kerbsidelaw48.TotalBounds", spec := "totalBounds", unfollowed := true, recurses := true, apart := false }
def TotalBoundsSaid : Prop := totalBoundsRow.holds Try.pinned (OpenSpec.ofChange totalBoundsSpec)

/-- ITS FALSE NEIGHBOUR: 'it returns false'. Refute it at one input. -/
def totalBoundsWrong : ChangeSpec := { name := "totalBounds", fn := fun _ => fun
  | [d1, d2, d3, d4, d5, d6, d7] => { results := [.lit (.bool false)], args := [d1, d2, d3, d4, d5, d6, d7] }
  | _ => none }
def TotalBoundsWrongFalsely : Prop := totalBoundsRow.holds Try.pinned (OpenSpec.ofChange totalBoundsWrong)

/-- 'kerbsidelaw48.TotalPaths': WHATEVER THE INPUT: true; the input reads as it did. -/
def totalPathsSpec : ChangeSpec := { name := "totalPaths", fn := fun _ => fun
  | [d1, d2, d3] => { results := [.lit (.bool true)], args := [d1, d2, d3] }
  | _ => none }
def totalPathsRow : OpenClaim := { program := "ytijkaiilecpbcaa", sum := "a54e5a4f348d0442a9d8d43d8fc25fd49d1318a5a5d33ad580415b3b549d8edc", func := "kerbside/kerbsidelaw48.TotalPaths", spec := "totalPaths", unfollowed := true, recurses := true, apart := false }
def TotalPathsSaid : Prop := totalPathsRow.holds Try.pinned (OpenSpec.ofChange totalPathsSpec)

/-- ITS FALSE NEIGHBOUR: 'it returns false'. Refute it at one input. -/
def totalPathsWrong : ChangeSpec := { name := "totalPaths", fn := fun _ => fun
  | [d1, d2, d3] => { results := [.lit (.bool false)], args := [d1, d2, d3] }
  | _ => none }
def TotalPathsWrongFalsely : Prop := totalPathsRow.holds Try.pinned (OpenSpec.ofChange totalPathsWrong)

/-- 'kerbsidelaw48.TotalHides': WHATEVER THE INPUT: true; the input reads as it did. -/
def totalHidesSpec : ChangeSpec := { name := "totalHides", fn := fun _ => fun
  | [d1, d2, d3, d4] => { results := [.lit (.bool true)], args := [d1, d2, d3, d4] }
  | _ => none }
def totalHidesRow : OpenClaim := { program := "ytijkaiilecpbcaa", sum := "a54e5a4f348d0442a9d8d43d8fc25fd49d1318a5a5d33ad580415b3b549d8edc", func := "kerbside/kerbsidelaw48.TotalHides", spec := "totalHides", unfollowed := true, recurses := true, apart := false }
def TotalHidesSaid : Prop := totalHidesRow.holds Try.pinned (OpenSpec.ofChange totalHidesSpec)

/-- ITS FALSE NEIGHBOUR: 'it returns false'. Refute it at one input. -/
def totalHidesWrong : ChangeSpec := { name := "totalHides", fn := fun _ => fun
  | [d1, d2, d3, d4] => { results := [.lit (.bool false)], args := [d1, d2, d3, d4] }
  | _ => none }
def TotalHidesWrongFalsely : Prop := totalHidesRow.holds Try.pinned (OpenSpec.ofChange totalHidesWrong)

/- THE SECOND FORM. 'bulk': how many values and letters a reading holds, each counted each time it is reached (what is shared counts as often as it is met; a slice's spare places count too). A statement '..UptoSaid' is the law's where the arguments, and the package variables that the reading takes, are together of bulk at most 1048576: NARROWER than '..Said'. Prove '..Said' where nothing that the law and all that it calls make is longer than what came in: it says more and counts as full. Else prove '..UptoSaid'. A law counts once. -/
mutual
def uptoBulk {H : Type} : DataW H → Nat
  | .lit (.string bytes) => bytes.length + 1
  | .lit _ => 1
  | .nil => 1
  | .ptr d => uptoBulk d + 1
  | .slice elems spare => uptoBulkAll elems + uptoBulkAll spare + 1
  | .agg parts => uptoBulkAll parts + 1
  | .iface _ d => uptoBulk d + 1
  | .map entries => uptoBulkEntries entries + 1
  | .held _ => 1
def uptoBulkAll {H : Type} : List (DataW H) → Nat
  | [] => 0
  | d :: r => uptoBulk d + uptoBulkAll r
def uptoBulkEntries {H : Type} : List (Lit × DataW H) → Nat
  | [] => 0
  | x :: r => uptoBulkEntry x + uptoBulkEntries r
def uptoBulkEntry {H : Type} : Lit × DataW H → Nat
  | (.string bytes, d) => bytes.length + uptoBulk d + 1
  | (_, d) => uptoBulk d + 1
 end
def uptoSmall : (H : Type) → List (DataW H) → Bool := fun _ ds => decide (uptoBulkAll ds ≤ 1048576)
def OpenSpec.upto (s : _root_.Go.ChangeSpec) : _root_.Go.OpenSpec := { _root_.Go.OpenSpec.ofChange s with cond := some uptoSmall }

/-- 'kerbsidelaw48.TotalWhole', WHERE WHAT IT READS IS OF BULK AT MOST 1048576: true; the input reads as it did. -/
def totalWholeUptoRow : OpenClaim := { program := "ytijkaiilecpbcaa", sum := "a54e5a4f348d0442a9d8d43d8fc25fd49d1318a5a5d33ad580415b3b549d8edc", func := "kerbside/kerbsidelaw48.TotalWhole", spec := "totalWhole", unfollowed := true, recurses := true, apart := false, narrowed := true }
def TotalWholeUptoSaid : Prop := totalWholeUptoRow.holds Try.pinned (OpenSpec.upto totalWholeSpec)

/-- 'kerbsidelaw48.TotalBounds', WHERE WHAT IT READS IS OF BULK AT MOST 1048576: true; the input reads as it did. -/
def totalBoundsUptoRow : OpenClaim := { program := "ytijkaiilecpbcaa", sum := "a54e5a4f348d0442a9d8d43d8fc25fd49d1318a5a5d33ad580415b3b549d8edc", func := "kerbside/kerbsidelaw48.TotalBounds", spec := "totalBounds", unfollowed := true, recurses := true, apart := false, narrowed := true }
def TotalBoundsUptoSaid : Prop := totalBoundsUptoRow.holds Try.pinned (OpenSpec.upto totalBoundsSpec)

/-- 'kerbsidelaw48.TotalPaths', WHERE WHAT IT READS IS OF BULK AT MOST 1048576: true; the input reads as it did. -/
def totalPathsUptoRow : OpenClaim := { program := "ytijkaiilecpbcaa", sum := "a54e5a4f348d0442a9d8d43d8fc25fd49d1318a5a5d33ad580415b3b549d8edc", func := "kerbside/kerbsidelaw48.TotalPaths", spec := "totalPaths", unfollowed := true, recurses := true, apart := false, narrowed := true }
def TotalPathsUptoSaid : Prop := totalPathsUptoRow.holds Try.pinned (OpenSpec.upto totalPathsSpec)

/-- 'kerbsidelaw48.TotalHides', WHERE WHAT IT READS IS OF BULK AT MOST 1048576: true; the input reads as it did. -/
def totalHidesUptoRow : OpenClaim := { program := "ytijkaiilecpbcaa", sum := "a54e5a4f348d0442a9d8d43d8fc25fd49d1318a5a5d33ad580415b3b549d8edc", func := "kerbside/kerbsidelaw48.TotalHides", spec := "totalHides", unfollowed := true, recurses := true, apart := false, narrowed := true }
def TotalHidesUptoSaid : Prop := totalHidesUptoRow.holds Try.pinned (OpenSpec.upto totalHidesSpec)

end Rows
end Go.Proofs.Ytijkaiilecpbcaa
