/-
  No cell of these rows narrows 'for every input' (looked for: loops, veiled, ifaces, maps, wideKeys, modest, calm, conditions, laid).
  DERIVED. THE GIVEN ROWS OF THIS SEAT. 8 by the template 'for every input the law returns true; each argument reads behind the call as it read before'; 0 by the template 'total and deterministic' (their statements: YtdbllcphopecjaaTotals.lean).
  GIVEN WITH THE SEED: the statements are not yours to turn. If you find one false, say at which input.
  Laid BY PROGRAM, IN A SANDBOX (cutbox-rows.mjs): the forced cells as the released guide's own fill.sh prints them over the translation 1f4574f495bb66eb… (all of the seat's roots in one cut). By AI agents, Wed Nov 11 2026. No macro, syntax, notation, axiom, sorry.
-/
import Derived.Test.YtdbllcphopecjaaChecked
import GoSem.Claim
import GoSem.ClaimJoined
import GoSem.ClaimMapViews
import Derived.JoinedTies
import Derived.KernelRfl
namespace Go.Proofs.Ytdbllcphopecjaa
/- THE CELL 'sum', in the pinned program and in every row, IS THE sha256 OF THE DUMP (.gsa) THAT YtdbllcphopecjaaProg.lean LOADS. Nothing in Lean hashes anything: it is a label: what it is worth is what the hold of that sum in a sandbox is worth. -/
noncomputable def Try.pinned : Pinned := { name := "ytdbllcphopecjaa", sum := "1f4574f495bb66eb19cc3afca925c0fac17622ec3e66277c8c44d478b4706697", checked := Try.checked }
namespace Rows
def none {H : Type} : Left H := { results := [], args := [] }

/-- 'kerbsidelaw29.TruckTells': WHATEVER THE INPUT: true; the input reads as it did. -/
def truckTellsSpec : ChangeSpec := { name := "truckTells", fn := fun _ => fun
  | [d1, d2, d3] => { results := [.lit (.bool true)], args := [d1, d2, d3] }
  | _ => none }
def truckTellsRow : OpenClaim := { program := "ytdbllcphopecjaa", sum := "1f4574f495bb66eb19cc3afca925c0fac17622ec3e66277c8c44d478b4706697", func := "kerbside/kerbsidelaw29.TruckTells", spec := "truckTells", unfollowed := true, recurses := true, apart := false }
def TruckTellsSaid : Prop := truckTellsRow.holds Try.pinned (OpenSpec.ofChange truckTellsSpec)

/-- ITS FALSE NEIGHBOUR: 'it returns false'. Refute it at one input. -/
def truckTellsWrong : ChangeSpec := { name := "truckTells", fn := fun _ => fun
  | [d1, d2, d3] => { results := [.lit (.bool false)], args := [d1, d2, d3] }
  | _ => none }
def TruckTellsWrongFalsely : Prop := truckTellsRow.holds Try.pinned (OpenSpec.ofChange truckTellsWrong)

/-- 'kerbsidelaw29.TruckParts': WHATEVER THE INPUT: true; the input reads as it did. -/
def truckPartsSpec : ChangeSpec := { name := "truckParts", fn := fun _ => fun
  | [d1, d2, d3, d4] => { results := [.lit (.bool true)], args := [d1, d2, d3, d4] }
  | _ => none }
def truckPartsRow : OpenClaim := { program := "ytdbllcphopecjaa", sum := "1f4574f495bb66eb19cc3afca925c0fac17622ec3e66277c8c44d478b4706697", func := "kerbside/kerbsidelaw29.TruckParts", spec := "truckParts", unfollowed := true, recurses := true, apart := false }
def TruckPartsSaid : Prop := truckPartsRow.holds Try.pinned (OpenSpec.ofChange truckPartsSpec)

/-- ITS FALSE NEIGHBOUR: 'it returns false'. Refute it at one input. -/
def truckPartsWrong : ChangeSpec := { name := "truckParts", fn := fun _ => fun
  | [d1, d2, d3, d4] => { results := [.lit (.bool false)], args := [d1, d2, d3, d4] }
  | _ => none }
def TruckPartsWrongFalsely : Prop := truckPartsRow.holds Try.pinned (OpenSpec.ofChange truckPartsWrong)

/-- 'kerbsidelaw29.TruckAdds': WHATEVER THE INPUT: true; the input reads as it did. -/
def truckAddsSpec : ChangeSpec := { name := "truckAdds", fn := fun _ => fun
  | [d1, d2, d3, d4] => { results := [.lit (.bool true)], args := [d1, d2, d3, d4] }
  | _ => none }
def truckAddsRow : OpenClaim := { program := "ytdbllcphopecjaa", sum := "1f4574f495bb66eb19cc3afca925c0fac17622ec3e66277c8c44d478b4706697", func := "kerbside/kerbsidelaw29.TruckAdds", spec := "truckAdds", unfollowed := true, recurses := true, apart := false }
def TruckAddsSaid : Prop := truckAddsRow.holds Try.pinned (OpenSpec.ofChange truckAddsSpec)

/-- ITS FALSE NEIGHBOUR: 'it returns false'. Refute it at one input. -/
def truckAddsWrong : ChangeSpec := { name := "truckAdds", fn := fun _ => fun
  | [d1, d2, d3, d4] => { results := [.lit (.bool false)], args := [d1, d2, d3, d4] }
  | _ => none }
def TruckAddsWrongFalsely : Prop := truckAddsRow.holds Try.pinned (OpenSpec.ofChange truckAddsWrong)

/-- 'kerbsidelaw29.TruckBounds': WHATEVER THE INPUT: true; the input reads as it did. -/
def truckBoundsSpec : ChangeSpec := { name := "truckBounds", fn := fun _ => fun
  | [d1, d2, d3] => { results := [.lit (.bool true)], args := [d1, d2, d3] }
  | _ => none }
def truckBoundsRow : OpenClaim := { program := "ytdbllcphopecjaa", sum := "1f4574f495bb66eb19cc3afca925c0fac17622ec3e66277c8c44d478b4706697", func := "kerbside/kerbsidelaw29.TruckBounds", spec := "truckBounds", unfollowed := true, recurses := true, apart := false }
def TruckBoundsSaid : Prop := truckBoundsRow.holds Try.pinned (OpenSpec.ofChange truckBoundsSpec)

/-- ITS FALSE NEIGHBOUR: 'it returns false'. Refute it at one input. -/
def truckBoundsWrong : ChangeSpec := { name := "truckBounds", fn := fun _ => fun
  | [d1, d2, d3] => { results := [.lit (.bool false)], args := [d1, d2, d3] }
  | _ => none }
def TruckBoundsWrongFalsely : Prop := truckBoundsRow.holds Try.pinned (OpenSpec.ofChange truckBoundsWrong)

/-- 'kerbsidelaw28.HoursTells': WHATEVER THE INPUT: true; the input reads as it did. -/
def hoursTellsSpec : ChangeSpec := { name := "hoursTells", fn := fun _ => fun
  | [d1, d2, d3, d4] => { results := [.lit (.bool true)], args := [d1, d2, d3, d4] }
  | _ => none }
def hoursTellsRow : OpenClaim := { program := "ytdbllcphopecjaa", sum := "1f4574f495bb66eb19cc3afca925c0fac17622ec3e66277c8c44d478b4706697", func := "kerbside/kerbsidelaw28.HoursTells", spec := "hoursTells", unfollowed := true, recurses := true, apart := false }
def HoursTellsSaid : Prop := hoursTellsRow.holds Try.pinned (OpenSpec.ofChange hoursTellsSpec)

/-- ITS FALSE NEIGHBOUR: 'it returns false'. Refute it at one input. -/
def hoursTellsWrong : ChangeSpec := { name := "hoursTells", fn := fun _ => fun
  | [d1, d2, d3, d4] => { results := [.lit (.bool false)], args := [d1, d2, d3, d4] }
  | _ => none }
def HoursTellsWrongFalsely : Prop := hoursTellsRow.holds Try.pinned (OpenSpec.ofChange hoursTellsWrong)

/-- 'kerbsidelaw28.HoursFirst': WHATEVER THE INPUT: true; the input reads as it did. -/
def hoursFirstSpec : ChangeSpec := { name := "hoursFirst", fn := fun _ => fun
  | [d1, d2, d3, d4, d5] => { results := [.lit (.bool true)], args := [d1, d2, d3, d4, d5] }
  | _ => none }
def hoursFirstRow : OpenClaim := { program := "ytdbllcphopecjaa", sum := "1f4574f495bb66eb19cc3afca925c0fac17622ec3e66277c8c44d478b4706697", func := "kerbside/kerbsidelaw28.HoursFirst", spec := "hoursFirst", unfollowed := true, recurses := true, apart := false }
def HoursFirstSaid : Prop := hoursFirstRow.holds Try.pinned (OpenSpec.ofChange hoursFirstSpec)

/-- ITS FALSE NEIGHBOUR: 'it returns false'. Refute it at one input. -/
def hoursFirstWrong : ChangeSpec := { name := "hoursFirst", fn := fun _ => fun
  | [d1, d2, d3, d4, d5] => { results := [.lit (.bool false)], args := [d1, d2, d3, d4, d5] }
  | _ => none }
def HoursFirstWrongFalsely : Prop := hoursFirstRow.holds Try.pinned (OpenSpec.ofChange hoursFirstWrong)

/-- 'kerbsidelaw28.HoursLast': WHATEVER THE INPUT: true; the input reads as it did. -/
def hoursLastSpec : ChangeSpec := { name := "hoursLast", fn := fun _ => fun
  | [d1, d2, d3, d4] => { results := [.lit (.bool true)], args := [d1, d2, d3, d4] }
  | _ => none }
def hoursLastRow : OpenClaim := { program := "ytdbllcphopecjaa", sum := "1f4574f495bb66eb19cc3afca925c0fac17622ec3e66277c8c44d478b4706697", func := "kerbside/kerbsidelaw28.HoursLast", spec := "hoursLast", unfollowed := true, recurses := true, apart := false }
def HoursLastSaid : Prop := hoursLastRow.holds Try.pinned (OpenSpec.ofChange hoursLastSpec)

/-- ITS FALSE NEIGHBOUR: 'it returns false'. Refute it at one input. -/
def hoursLastWrong : ChangeSpec := { name := "hoursLast", fn := fun _ => fun
  | [d1, d2, d3, d4] => { results := [.lit (.bool false)], args := [d1, d2, d3, d4] }
  | _ => none }
def HoursLastWrongFalsely : Prop := hoursLastRow.holds Try.pinned (OpenSpec.ofChange hoursLastWrong)

/-- 'kerbsidelaw28.HoursBoth': WHATEVER THE INPUT: true; the input reads as it did. -/
def hoursBothSpec : ChangeSpec := { name := "hoursBoth", fn := fun _ => fun
  | [d1, d2, d3, d4] => { results := [.lit (.bool true)], args := [d1, d2, d3, d4] }
  | _ => none }
def hoursBothRow : OpenClaim := { program := "ytdbllcphopecjaa", sum := "1f4574f495bb66eb19cc3afca925c0fac17622ec3e66277c8c44d478b4706697", func := "kerbside/kerbsidelaw28.HoursBoth", spec := "hoursBoth", unfollowed := true, recurses := true, apart := false }
def HoursBothSaid : Prop := hoursBothRow.holds Try.pinned (OpenSpec.ofChange hoursBothSpec)

/-- ITS FALSE NEIGHBOUR: 'it returns false'. Refute it at one input. -/
def hoursBothWrong : ChangeSpec := { name := "hoursBoth", fn := fun _ => fun
  | [d1, d2, d3, d4] => { results := [.lit (.bool false)], args := [d1, d2, d3, d4] }
  | _ => none }
def HoursBothWrongFalsely : Prop := hoursBothRow.holds Try.pinned (OpenSpec.ofChange hoursBothWrong)

/- THE SECOND FORM. 'bulk': how many values and letters a reading holds, each counted each time it is reached (what is shared counts as often as it is met; a slice's spare places count too). A statement '..UptoSaid' is the law's where the arguments, and the package variables that the reading takes, are together of bulk at most 1048576: NARROWER than '..Said'. Prove '..Said' where nothing that the law and all that it calls make is longer than what came in: it says more and counts as full. Else prove '..UptoSaid'. A law counts once. -/
mutual
def uptoBulk {H : Type} : DataW H → Nat
  | .lit (.string bytes) => bytes.length + 1
  | .lit _ => 1
  | .nil => 1
  | .ptr d => uptoBulk d + 1
  | .slice elems spare => uptoBulkAll elems + uptoBulkAll spare + 1
  | .agg parts => uptoBulkAll parts + 1
  | .iface _ d => uptoBulk d + 1
  | .map entries => uptoBulkEntries entries + 1
  | .held _ => 1
def uptoBulkAll {H : Type} : List (DataW H) → Nat
  | [] => 0
  | d :: r => uptoBulk d + uptoBulkAll r
def uptoBulkEntries {H : Type} : List (Lit × DataW H) → Nat
  | [] => 0
  | x :: r => uptoBulkEntry x + uptoBulkEntries r
def uptoBulkEntry {H : Type} : Lit × DataW H → Nat
  | (.string bytes, d) => bytes.length + uptoBulk d + 1
  | (_, d) => uptoBulk d + 1
 end
def uptoSmall : (H : Type) → List (DataW H) → Bool := fun _ ds => decide (uptoBulkAll ds ≤ 1048576)
def OpenSpec.upto (s : _root_.Go.ChangeSpec) : _root_.Go.OpenSpec := { _root_.Go.OpenSpec.ofChange s with cond := some uptoSmall }

/-- 'kerbsidelaw29.TruckTells', WHERE WHAT IT READS IS OF BULK AT MOST 1048576: true; the input reads as it did. -/
def truckTellsUptoRow : OpenClaim := { program := "ytdbllcphopecjaa", sum := "1f4574f495bb66eb19cc3afca925c0fac17622ec3e66277c8c44d478b4706697", func := "kerbside/kerbsidelaw29.TruckTells", spec := "truckTells", unfollowed := true, recurses := true, apart := false, narrowed := true }
def TruckTellsUptoSaid : Prop := truckTellsUptoRow.holds Try.pinned (OpenSpec.upto truckTellsSpec)

/-- 'kerbsidelaw29.TruckParts', WHERE WHAT IT READS IS OF BULK AT MOST 1048576: true; the input reads as it did. -/
def truckPartsUptoRow : OpenClaim := { program := "ytdbllcphopecjaa", sum := "1f4574f495bb66eb19cc3afca925c0fac17622ec3e66277c8c44d478b4706697", func := "kerbside/kerbsidelaw29.TruckParts", spec := "truckParts", unfollowed := true, recurses := true, apart := false, narrowed := true }
def TruckPartsUptoSaid : Prop := truckPartsUptoRow.holds Try.pinned (OpenSpec.upto truckPartsSpec)

/-- 'kerbsidelaw29.TruckAdds', WHERE WHAT IT READS IS OF BULK AT MOST 1048576: true; the input reads as it did. -/
def truckAddsUptoRow : OpenClaim := { program := "ytdbllcphopecjaa", sum := "1f4574f495bb66eb19cc3afca925c0fac17622ec3e66277c8c44d478b4706697", func := "kerbside/kerbsidelaw29.TruckAdds", spec := "truckAdds", unfollowed := true, recurses := true, apart := false, narrowed := true }
def TruckAddsUptoSaid : Prop := truckAddsUptoRow.holds Try.pinned (OpenSpec.upto truckAddsSpec)

/-- 'kerbsidelaw29.TruckBounds', WHERE WHAT IT READS IS OF BULK AT MOST 1048576: true; the input reads as it did. -/
def truckBoundsUptoRow : OpenClaim := { program := "ytdbllcphopecjaa", sum := "1f4574f495bb66eb19cc3afca925c0fac17622ec3e66277c8c44d478b4706697", func := "kerbside/kerbsidelaw29.TruckBounds", spec := "truckBounds", unfollowed := true, recurses := true, apart := false, narrowed := true }
def TruckBoundsUptoSaid : Prop := truckBoundsUptoRow.holds Try.pinned (OpenSpec.upto truckBoundsSpec)

/-- 'kerbsidelaw28.HoursTells', WHERE WHAT IT READS IS OF BULK AT MOST 1048576: true; the input reads as it did. -/
def hoursTellsUptoRow : OpenClaim := { program := "ytdbllcphopecjaa", sum := "1f4574f495bb66eb19cc3afca925c0fac17622ec3e66277c8c44d478b4706697", func := "kerbside/kerbsidelaw28.HoursTells", spec := "hoursTells", unfollowed := true, recurses := true, apart := false, narrowed := true }
def HoursTellsUptoSaid : Prop := hoursTellsUptoRow.holds Try.pinned (OpenSpec.upto hoursTellsSpec)

/-- 'kerbsidelaw28.HoursFirst', WHERE WHAT IT READS IS OF BULK AT MOST 1048576: true; the input reads as it did. -/
def hoursFirstUptoRow : OpenClaim := { program := "ytdbllcphopecjaa", sum := "1f4574f495bb66eb19cc3afca925c0fac17622ec3e66277c8c44d478b4706697", func := "kerbside/kerbsidelaw28.HoursFirst", spec := "hoursFirst", unfollowed := true, recurses := true, apart := false, narrowed := true }
def HoursFirstUptoSaid : Prop := hoursFirstUptoRow.holds Try.pinned (OpenSpec.upto hoursFirstSpec)

/-- 'kerbsidelaw28.HoursLast', WHERE WHAT IT READS IS OF BULK AT MOST 1048576: true; the input reads as it did. -/
def hoursLastUptoRow : OpenClaim := { program := "ytdbllcphopecjaa", sum := "1f4574f495bb66eb19cc3afca925c0fac17622ec3e66277c8c44d478b4706697", func := "kerbside/kerbsidelaw28.HoursLast", spec := "hoursLast", unfollowed := true, recurses := true, apart := false, narrowed := true }
def HoursLastUptoSaid : Prop := hoursLastUptoRow.holds Try.pinned (OpenSpec.upto hoursLastSpec)

/-- 'kerbsidelaw28.HoursBoth', WHERE WHAT IT READS IS OF BULK AT MOST 1048576: true; the input reads as it did. -/
def hoursBothUptoRow : OpenClaim := { program := "ytdbllcphopecjaa", sum := "1f4574f495bb66eb19cc3afca925c0fac17622ec3e66277c8c44d478b4706697", func := "kerbside/kerbsidelaw28.HoursBoth", spec := "hoursBoth", unfollowed := true, recurses := true, apart := false, narrowed := true }
def HoursBothUptoSaid : Prop := hoursBothUptoRow.holds Try.pinned (OpenSpec.upto hoursBothSpec)

end Rows
end Go.Proofs.Ytdbllcphopecjaa
