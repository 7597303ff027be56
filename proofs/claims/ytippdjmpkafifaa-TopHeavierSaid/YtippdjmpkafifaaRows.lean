/-
  No cell of these rows narrows 'for every input' (looked for: loops, veiled, ifaces, maps, wideKeys, modest, calm, conditions, laid).
  DERIVED. THE GIVEN ROWS OF THIS SEAT. 5 by the template 'for every input the law returns true; each argument reads behind the call as it read before'; 0 by the template 'total and deterministic' (their statements: YtippdjmpkafifaaTotals.lean).
  GIVEN WITH THE SEED: the statements are not yours to turn. If you find one false, say at which input.
  Laid BY PROGRAM, IN A SANDBOX (cutbox-rows.mjs): the forced cells as the released guide's own fill.sh prints them over the translation 4146ab7b95813471… (all of the seat's roots in one cut). By AI agents, Wed Nov 11 2026. No macro, syntax, notation, axiom, sorry.
-/
import Derived.Test.YtippdjmpkafifaaChecked
import GoSem.Claim
import GoSem.ClaimJoined
import GoSem.ClaimMapViews
import Derived.JoinedTies
import Derived.KernelRfl
namespace Go.Proofs.Ytippdjmpkafifaa
/- THE CELL 'sum', in the pinned program and in every row, IS THE sha256 OF THE DUMP (.gsa) THAT YtippdjmpkafifaaProg.lean LOADS. Nothing in Lean hashes anything: it is a label: what it is worth is what the hold of that sum in a sandbox is worth. -/
noncomputable def Try.pinned : Pinned := { name := "ytippdjmpkafifaa", sum := "4146ab7b95813471e88be89d2334e864ece49726c4e3aea7b239c8806cb97547", checked := Try.checked }
namespace Rows
def none {H : Type} : Left H := { results := [], args := [] }

/-- 'kerbsidelaw32.PlanProves': WHATEVER THE INPUT: true; the input reads as it did. -/
def planProvesSpec : ChangeSpec := { name := "planProves", fn := fun _ => fun
  | [d1, d2, d3, d4, d5] => { results := [.lit (.bool true)], args := [d1, d2, d3, d4, d5] }
  | _ => none }
def planProvesRow : OpenClaim := { program := "ytippdjmpkafifaa", sum := "4146ab7b95813471e88be89d2334e864ece49726c4e3aea7b239c8806cb97547", func := "kerbside/kerbsidelaw32.PlanProves", spec := "planProves", unfollowed := true, recurses := true, plainKeys := false, apart := false }
def PlanProvesSaid : Prop := planProvesRow.holds Try.pinned (OpenSpec.ofChange planProvesSpec)

/-- ITS FALSE NEIGHBOUR: 'it returns false'. Refute it at one input. -/
def planProvesWrong : ChangeSpec := { name := "planProves", fn := fun _ => fun
  | [d1, d2, d3, d4, d5] => { results := [.lit (.bool false)], args := [d1, d2, d3, d4, d5] }
  | _ => none }
def PlanProvesWrongFalsely : Prop := planProvesRow.holds Try.pinned (OpenSpec.ofChange planProvesWrong)

/-- 'kerbsidelaw32.PlanParts': WHATEVER THE INPUT: true; the input reads as it did. -/
def planPartsSpec : ChangeSpec := { name := "planParts", fn := fun _ => fun
  | [d1, d2, d3, d4, d5] => { results := [.lit (.bool true)], args := [d1, d2, d3, d4, d5] }
  | _ => none }
def planPartsRow : OpenClaim := { program := "ytippdjmpkafifaa", sum := "4146ab7b95813471e88be89d2334e864ece49726c4e3aea7b239c8806cb97547", func := "kerbside/kerbsidelaw32.PlanParts", spec := "planParts", unfollowed := true, recurses := true, plainKeys := false, apart := false }
def PlanPartsSaid : Prop := planPartsRow.holds Try.pinned (OpenSpec.ofChange planPartsSpec)

/-- ITS FALSE NEIGHBOUR: 'it returns false'. Refute it at one input. -/
def planPartsWrong : ChangeSpec := { name := "planParts", fn := fun _ => fun
  | [d1, d2, d3, d4, d5] => { results := [.lit (.bool false)], args := [d1, d2, d3, d4, d5] }
  | _ => none }
def PlanPartsWrongFalsely : Prop := planPartsRow.holds Try.pinned (OpenSpec.ofChange planPartsWrong)

/-- 'kerbsidelaw32.PlanServes': WHATEVER THE INPUT: true; the input reads as it did. -/
def planServesSpec : ChangeSpec := { name := "planServes", fn := fun _ => fun
  | [d1, d2, d3, d4] => { results := [.lit (.bool true)], args := [d1, d2, d3, d4] }
  | _ => none }
def planServesRow : OpenClaim := { program := "ytippdjmpkafifaa", sum := "4146ab7b95813471e88be89d2334e864ece49726c4e3aea7b239c8806cb97547", func := "kerbside/kerbsidelaw32.PlanServes", spec := "planServes", unfollowed := true, recurses := true, plainKeys := false, apart := false }
def PlanServesSaid : Prop := planServesRow.holds Try.pinned (OpenSpec.ofChange planServesSpec)

/-- ITS FALSE NEIGHBOUR: 'it returns false'. Refute it at one input. -/
def planServesWrong : ChangeSpec := { name := "planServes", fn := fun _ => fun
  | [d1, d2, d3, d4] => { results := [.lit (.bool false)], args := [d1, d2, d3, d4] }
  | _ => none }
def PlanServesWrongFalsely : Prop := planServesRow.holds Try.pinned (OpenSpec.ofChange planServesWrong)

/-- 'kerbsidelaw32.PlanFirst': WHATEVER THE INPUT: true; the input reads as it did. -/
def planFirstSpec : ChangeSpec := { name := "planFirst", fn := fun _ => fun
  | [d1, d2, d3] => { results := [.lit (.bool true)], args := [d1, d2, d3] }
  | _ => none }
def planFirstRow : OpenClaim := { program := "ytippdjmpkafifaa", sum := "4146ab7b95813471e88be89d2334e864ece49726c4e3aea7b239c8806cb97547", func := "kerbside/kerbsidelaw32.PlanFirst", spec := "planFirst", unfollowed := true, recurses := true, plainKeys := false, apart := false }
def PlanFirstSaid : Prop := planFirstRow.holds Try.pinned (OpenSpec.ofChange planFirstSpec)

/-- ITS FALSE NEIGHBOUR: 'it returns false'. Refute it at one input. -/
def planFirstWrong : ChangeSpec := { name := "planFirst", fn := fun _ => fun
  | [d1, d2, d3] => { results := [.lit (.bool false)], args := [d1, d2, d3] }
  | _ => none }
def PlanFirstWrongFalsely : Prop := planFirstRow.holds Try.pinned (OpenSpec.ofChange planFirstWrong)

/-- 'kerbsidetop.TopHeavier': WHATEVER THE INPUT: true; the input reads as it did. -/
def topHeavierSpec : ChangeSpec := { name := "topHeavier", fn := fun _ => fun
  | [d1, d2, d3, d4, d5, d6] => { results := [.lit (.bool true)], args := [d1, d2, d3, d4, d5, d6] }
  | _ => none }
def topHeavierRow : OpenClaim := { program := "ytippdjmpkafifaa", sum := "4146ab7b95813471e88be89d2334e864ece49726c4e3aea7b239c8806cb97547", func := "kerbside/kerbsidetop.TopHeavier", spec := "topHeavier", unfollowed := true, recurses := true, plainKeys := false, apart := false }
def TopHeavierSaid : Prop := topHeavierRow.holds Try.pinned (OpenSpec.ofChange topHeavierSpec)

/-- ITS FALSE NEIGHBOUR: 'it returns false'. Refute it at one input. -/
def topHeavierWrong : ChangeSpec := { name := "topHeavier", fn := fun _ => fun
  | [d1, d2, d3, d4, d5, d6] => { results := [.lit (.bool false)], args := [d1, d2, d3, d4, d5, d6] }
  | _ => none }
def TopHeavierWrongFalsely : Prop := topHeavierRow.holds Try.pinned (OpenSpec.ofChange topHeavierWrong)

/- THE SECOND FORM. 'bulk': how many values and letters a reading holds, each counted each time it is reached (what is shared counts as often as it is met; a slice's spare places count too). A statement '..UptoSaid' is the law's where the arguments, and the package variables that the reading takes, are together of bulk at most 1048576: NARROWER than '..Said'. Prove '..Said' where nothing that the law and all that it calls make is longer than what came in: it says more and counts as full. Else prove '..UptoSaid'. A law counts once. -/
mutual
def uptoBulk {H : Type} : DataW H → Nat
  | .lit (.string bytes) => bytes.length + 1
  | .lit _ => 1
  | .nil => 1
  | .ptr d => uptoBulk d + 1
  | .slice elems spare => uptoBulkAll elems + uptoBulkAll spare + 1
  | .agg parts => uptoBulkAll parts + 1
  | .iface _ d => uptoBulk d + 1
  | .map entries => uptoBulkEntries entries + 1
  | .held _ => 1
def uptoBulkAll {H : Type} : List (DataW H) → Nat
  | [] => 0
  | d :: r => uptoBulk d + uptoBulkAll r
def uptoBulkEntries {H : Type} : List (Lit × DataW H) → Nat
  | [] => 0
  | x :: r => uptoBulkEntry x + uptoBulkEntries r
def uptoBulkEntry {H : Type} : Lit × DataW H → Nat
  | (.string bytes, d) => bytes.length + uptoBulk d + 1
  | (_, d) => uptoBulk d + 1
 end
def uptoSmall : (H : Type) → List (DataW H) → Bool := fun _ ds => decide (uptoBulkAll ds ≤ 1048576)
def OpenSpec.upto (s : _root_.Go.ChangeSpec) : _root_.Go.OpenSpec := { _root_.Go.OpenSpec.ofChange s with cond := some uptoSmall }

/-- 'kerbsidelaw32.PlanProves', WHERE WHAT IT READS IS OF BULK AT MOST 1048576: true; the input reads as it did. -/
def planProvesUptoRow : OpenClaim := { program := "ytippdjmpkafifaa", sum := "4146ab7b95813471e88be89d2334e864ece49726c4e3aea7b239c8806cb97547", func := "kerbside/kerbsidelaw32.PlanProves", spec := "planProves", unfollowed := true, recurses := true, plainKeys := false, apart := false, narrowed := true }
def PlanProvesUptoSaid : Prop := planProvesUptoRow.holds Try.pinned (OpenSpec.upto planProvesSpec)

/-- 'kerbsidelaw32.PlanParts', WHERE WHAT IT READS IS OF BULK AT MOST 1048576: true; the input reads as it did. -/
def planPartsUptoRow : OpenClaim := { program := "ytippdjmpkafifaa", sum := "4146ab7b95813471e88be89d2334e864ece49726c4e3aea7b239c8806cb97547", func := "kerbside/kerbsidelaw32.PlanParts", spec := "planParts", unfollowed := true, recurses := true, plainKeys := false, apart := false, narrowed := true }
def PlanPartsUptoSaid : Prop := planPartsUptoRow.holds Try.pinned (OpenSpec.upto planPartsSpec)

/-- 'kerbsidelaw32.PlanServes', WHERE WHAT IT READS IS OF BULK AT MOST 1048576: true; the input reads as it did. -/
def planServesUptoRow : OpenClaim := { program := "ytippdjmpkafifaa", sum := "4146ab7b95813471e88be89d2334e864ece49726c4e3aea7b239c8806cb97547", func := "kerbside/kerbsidelaw32.PlanServes", spec := "planServes", unfollowed := true, recurses := true, plainKeys := false, apart := false, narrowed := true }
def PlanServesUptoSaid : Prop := planServesUptoRow.holds Try.pinned (OpenSpec.upto planServesSpec)

/-- 'kerbsidelaw32.PlanFirst', WHERE WHAT IT READS IS OF BULK AT MOST 1048576: true; the input reads as it did. -/
def planFirstUptoRow : OpenClaim := { program := "ytippdjmpkafifaa", sum := "4146ab7b95813471e88be89d2334e864ece49726c4e3aea7b239c8806cb97547", func := "kerbside/kerbsidelaw32.PlanFirst", spec := "planFirst", unfollowed := true, recurses := true, plainKeys := false, apart := false, narrowed := true }
def PlanFirstUptoSaid : Prop := planFirstUptoRow.holds Try.pinned (OpenSpec.upto planFirstSpec)

/-- 'kerbsidetop.TopHeavier', WHERE WHAT IT READS IS OF BULK AT MOST 1048576: true; the input reads as it did. -/
def topHeavierUptoRow : OpenClaim := { program := "ytippdjmpkafifaa", sum := "4146ab7b95813471e88be89d2334e864ece49726c4e3aea7b239c8806cb97547", func := "kerbside/kerbsidetop.TopHeavier", spec := "topHeavier", unfollowed := true, recurses := true, plainKeys := false, apart := false, narrowed := true }
def TopHeavierUptoSaid : Prop := topHeavierUptoRow.holds Try.pinned (OpenSpec.upto topHeavierSpec)

end Rows
end Go.Proofs.Ytippdjmpkafifaa
