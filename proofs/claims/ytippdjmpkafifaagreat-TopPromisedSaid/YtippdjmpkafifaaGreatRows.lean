/-
  No cell of these rows narrows 'for every input' (looked for: loops, veiled, ifaces, maps, wideKeys, modest, calm, conditions, laid).
  DERIVED. THE GIVEN ROWS OF THIS SEAT. 13 by the template 'for every input the law returns true; each argument reads behind the call as it read before'; 0 by the template 'total and deterministic' (their statements: YtippdjmpkafifaaGreatTotals.lean).
  GIVEN WITH THE SEED: the statements are not yours to turn. If you find one false, say at which input.
  Laid BY PROGRAM, IN A SANDBOX (cutbox-rows.mjs): the forced cells as the released guide's own fill.sh prints them over the translation cc2f59d2044524c0… (all of the seat's roots in one cut). By AI agents, Wed Nov 11 2026. No macro, syntax, notation, axiom, sorry.
-/
import Derived.Test.YtippdjmpkafifaaGreatChecked
import GoSem.Claim
import GoSem.ClaimJoined
import GoSem.ClaimMapViews
import Derived.JoinedTies
import Derived.KernelRfl
namespace Go.Proofs.YtippdjmpkafifaaGreat
/- THE CELL 'sum', in the pinned program and in every row, IS THE sha256 OF THE DUMP (.gsa) THAT YtippdjmpkafifaaGreatProg.lean LOADS. Nothing in Lean hashes anything: it is a label: what it is worth is what the hold of that sum in a sandbox is worth. -/
noncomputable def Tryz.pinned : Pinned := { name := "ytippdjmpkafifaagreat", sum := "cc2f59d2044524c0156d3000deb10b3ca745dd9652ef1e0e0785af0f1a9e59b9", checked := Tryz.checked }
namespace Rows
def none {H : Type} : Left H := { results := [], args := [] }

/-- 'kerbsidelaw32.PlanTells': WHATEVER THE INPUT: true; the input reads as it did. -/
def planTellsSpec : ChangeSpec := { name := "planTells", fn := fun _ => fun
  | [d1, d2, d3, d4, d5] => { results := [.lit (.bool true)], args := [d1, d2, d3, d4, d5] }
  | _ => none }
def planTellsRow : OpenClaim := { program := "ytippdjmpkafifaagreat", sum := "cc2f59d2044524c0156d3000deb10b3ca745dd9652ef1e0e0785af0f1a9e59b9", func := "kerbside/kerbsidelaw32.PlanTells", spec := "planTells", unfollowed := true, recurses := true, plainKeys := false, apart := false }
def PlanTellsSaid : Prop := planTellsRow.holds Tryz.pinned (OpenSpec.ofChange planTellsSpec)

/-- ITS FALSE NEIGHBOUR: 'it returns false'. Refute it at one input. -/
def planTellsWrong : ChangeSpec := { name := "planTells", fn := fun _ => fun
  | [d1, d2, d3, d4, d5] => { results := [.lit (.bool false)], args := [d1, d2, d3, d4, d5] }
  | _ => none }
def PlanTellsWrongFalsely : Prop := planTellsRow.holds Tryz.pinned (OpenSpec.ofChange planTellsWrong)

/-- 'kerbsidelaw33.PromiseTells': WHATEVER THE INPUT: true; the input reads as it did. -/
def promiseTellsSpec : ChangeSpec := { name := "promiseTells", fn := fun _ => fun
  | [d1, d2, d3] => { results := [.lit (.bool true)], args := [d1, d2, d3] }
  | _ => none }
def promiseTellsRow : OpenClaim := { program := "ytippdjmpkafifaagreat", sum := "cc2f59d2044524c0156d3000deb10b3ca745dd9652ef1e0e0785af0f1a9e59b9", func := "kerbside/kerbsidelaw33.PromiseTells", spec := "promiseTells", unfollowed := true, recurses := true, plainKeys := false, apart := false }
def PromiseTellsSaid : Prop := promiseTellsRow.holds Tryz.pinned (OpenSpec.ofChange promiseTellsSpec)

/-- ITS FALSE NEIGHBOUR: 'it returns false'. Refute it at one input. -/
def promiseTellsWrong : ChangeSpec := { name := "promiseTells", fn := fun _ => fun
  | [d1, d2, d3] => { results := [.lit (.bool false)], args := [d1, d2, d3] }
  | _ => none }
def PromiseTellsWrongFalsely : Prop := promiseTellsRow.holds Tryz.pinned (OpenSpec.ofChange promiseTellsWrong)

/-- 'kerbsidelaw33.PromiseAnswers': WHATEVER THE INPUT: true; the input reads as it did. -/
def promiseAnswersSpec : ChangeSpec := { name := "promiseAnswers", fn := fun _ => fun
  | [d1, d2, d3] => { results := [.lit (.bool true)], args := [d1, d2, d3] }
  | _ => none }
def promiseAnswersRow : OpenClaim := { program := "ytippdjmpkafifaagreat", sum := "cc2f59d2044524c0156d3000deb10b3ca745dd9652ef1e0e0785af0f1a9e59b9", func := "kerbside/kerbsidelaw33.PromiseAnswers", spec := "promiseAnswers", unfollowed := true, recurses := true, plainKeys := false, apart := false }
def PromiseAnswersSaid : Prop := promiseAnswersRow.holds Tryz.pinned (OpenSpec.ofChange promiseAnswersSpec)

/-- ITS FALSE NEIGHBOUR: 'it returns false'. Refute it at one input. -/
def promiseAnswersWrong : ChangeSpec := { name := "promiseAnswers", fn := fun _ => fun
  | [d1, d2, d3] => { results := [.lit (.bool false)], args := [d1, d2, d3] }
  | _ => none }
def PromiseAnswersWrongFalsely : Prop := promiseAnswersRow.holds Tryz.pinned (OpenSpec.ofChange promiseAnswersWrong)

/-- 'kerbsidelaw33.PromiseSmallest': WHATEVER THE INPUT: true; the input reads as it did. -/
def promiseSmallestSpec : ChangeSpec := { name := "promiseSmallest", fn := fun _ => fun
  | [d1, d2] => { results := [.lit (.bool true)], args := [d1, d2] }
  | _ => none }
def promiseSmallestRow : OpenClaim := { program := "ytippdjmpkafifaagreat", sum := "cc2f59d2044524c0156d3000deb10b3ca745dd9652ef1e0e0785af0f1a9e59b9", func := "kerbside/kerbsidelaw33.PromiseSmallest", spec := "promiseSmallest", unfollowed := true, recurses := true, plainKeys := false, apart := false }
def PromiseSmallestSaid : Prop := promiseSmallestRow.holds Tryz.pinned (OpenSpec.ofChange promiseSmallestSpec)

/-- ITS FALSE NEIGHBOUR: 'it returns false'. Refute it at one input. -/
def promiseSmallestWrong : ChangeSpec := { name := "promiseSmallest", fn := fun _ => fun
  | [d1, d2] => { results := [.lit (.bool false)], args := [d1, d2] }
  | _ => none }
def PromiseSmallestWrongFalsely : Prop := promiseSmallestRow.holds Tryz.pinned (OpenSpec.ofChange promiseSmallestWrong)

/-- 'kerbsidelaw33.PromiseKeeps': WHATEVER THE INPUT: true; the input reads as it did. -/
def promiseKeepsSpec : ChangeSpec := { name := "promiseKeeps", fn := fun _ => fun
  | [d1, d2] => { results := [.lit (.bool true)], args := [d1, d2] }
  | _ => none }
def promiseKeepsRow : OpenClaim := { program := "ytippdjmpkafifaagreat", sum := "cc2f59d2044524c0156d3000deb10b3ca745dd9652ef1e0e0785af0f1a9e59b9", func := "kerbside/kerbsidelaw33.PromiseKeeps", spec := "promiseKeeps", unfollowed := true, recurses := true, plainKeys := false, apart := false }
def PromiseKeepsSaid : Prop := promiseKeepsRow.holds Tryz.pinned (OpenSpec.ofChange promiseKeepsSpec)

/-- ITS FALSE NEIGHBOUR: 'it returns false'. Refute it at one input. -/
def promiseKeepsWrong : ChangeSpec := { name := "promiseKeeps", fn := fun _ => fun
  | [d1, d2] => { results := [.lit (.bool false)], args := [d1, d2] }
  | _ => none }
def PromiseKeepsWrongFalsely : Prop := promiseKeepsRow.holds Tryz.pinned (OpenSpec.ofChange promiseKeepsWrong)

/-- 'kerbsidelaw33.PromiseLess': WHATEVER THE INPUT: true; the input reads as it did. -/
def promiseLessSpec : ChangeSpec := { name := "promiseLess", fn := fun _ => fun
  | [d1, d2, d3, d4] => { results := [.lit (.bool true)], args := [d1, d2, d3, d4] }
  | _ => none }
def promiseLessRow : OpenClaim := { program := "ytippdjmpkafifaagreat", sum := "cc2f59d2044524c0156d3000deb10b3ca745dd9652ef1e0e0785af0f1a9e59b9", func := "kerbside/kerbsidelaw33.PromiseLess", spec := "promiseLess", unfollowed := true, recurses := true, plainKeys := false, apart := false }
def PromiseLessSaid : Prop := promiseLessRow.holds Tryz.pinned (OpenSpec.ofChange promiseLessSpec)

/-- ITS FALSE NEIGHBOUR: 'it returns false'. Refute it at one input. -/
def promiseLessWrong : ChangeSpec := { name := "promiseLess", fn := fun _ => fun
  | [d1, d2, d3, d4] => { results := [.lit (.bool false)], args := [d1, d2, d3, d4] }
  | _ => none }
def PromiseLessWrongFalsely : Prop := promiseLessRow.holds Tryz.pinned (OpenSpec.ofChange promiseLessWrong)

/-- 'kerbsidelaw34.KeepTells': WHATEVER THE INPUT: true; the input reads as it did. -/
def keepTellsSpec : ChangeSpec := { name := "keepTells", fn := fun _ => fun
  | [d1, d2, d3, d4, d5] => { results := [.lit (.bool true)], args := [d1, d2, d3, d4, d5] }
  | _ => none }
def keepTellsRow : OpenClaim := { program := "ytippdjmpkafifaagreat", sum := "cc2f59d2044524c0156d3000deb10b3ca745dd9652ef1e0e0785af0f1a9e59b9", func := "kerbside/kerbsidelaw34.KeepTells", spec := "keepTells", unfollowed := true, recurses := true, plainKeys := false, apart := false }
def KeepTellsSaid : Prop := keepTellsRow.holds Tryz.pinned (OpenSpec.ofChange keepTellsSpec)

/-- ITS FALSE NEIGHBOUR: 'it returns false'. Refute it at one input. -/
def keepTellsWrong : ChangeSpec := { name := "keepTells", fn := fun _ => fun
  | [d1, d2, d3, d4, d5] => { results := [.lit (.bool false)], args := [d1, d2, d3, d4, d5] }
  | _ => none }
def KeepTellsWrongFalsely : Prop := keepTellsRow.holds Tryz.pinned (OpenSpec.ofChange keepTellsWrong)

/-- 'kerbsidelaw34.KeepFair': WHATEVER THE INPUT: true; the input reads as it did. -/
def keepFairSpec : ChangeSpec := { name := "keepFair", fn := fun _ => fun
  | [d1, d2] => { results := [.lit (.bool true)], args := [d1, d2] }
  | _ => none }
def keepFairRow : OpenClaim := { program := "ytippdjmpkafifaagreat", sum := "cc2f59d2044524c0156d3000deb10b3ca745dd9652ef1e0e0785af0f1a9e59b9", func := "kerbside/kerbsidelaw34.KeepFair", spec := "keepFair", unfollowed := true, recurses := true, plainKeys := false, apart := false }
def KeepFairSaid : Prop := keepFairRow.holds Tryz.pinned (OpenSpec.ofChange keepFairSpec)

/-- ITS FALSE NEIGHBOUR: 'it returns false'. Refute it at one input. -/
def keepFairWrong : ChangeSpec := { name := "keepFair", fn := fun _ => fun
  | [d1, d2] => { results := [.lit (.bool false)], args := [d1, d2] }
  | _ => none }
def KeepFairWrongFalsely : Prop := keepFairRow.holds Tryz.pinned (OpenSpec.ofChange keepFairWrong)

/-- 'kerbsidelaw34.KeepChecks': WHATEVER THE INPUT: true; the input reads as it did. -/
def keepChecksSpec : ChangeSpec := { name := "keepChecks", fn := fun _ => fun
  | [d1, d2, d3, d4, d5] => { results := [.lit (.bool true)], args := [d1, d2, d3, d4, d5] }
  | _ => none }
def keepChecksRow : OpenClaim := { program := "ytippdjmpkafifaagreat", sum := "cc2f59d2044524c0156d3000deb10b3ca745dd9652ef1e0e0785af0f1a9e59b9", func := "kerbside/kerbsidelaw34.KeepChecks", spec := "keepChecks", unfollowed := true, recurses := true, plainKeys := false, apart := false }
def KeepChecksSaid : Prop := keepChecksRow.holds Tryz.pinned (OpenSpec.ofChange keepChecksSpec)

/-- ITS FALSE NEIGHBOUR: 'it returns false'. Refute it at one input. -/
def keepChecksWrong : ChangeSpec := { name := "keepChecks", fn := fun _ => fun
  | [d1, d2, d3, d4, d5] => { results := [.lit (.bool false)], args := [d1, d2, d3, d4, d5] }
  | _ => none }
def KeepChecksWrongFalsely : Prop := keepChecksRow.holds Tryz.pinned (OpenSpec.ofChange keepChecksWrong)

/-- 'kerbsidelaw34.KeepFirst': WHATEVER THE INPUT: true; the input reads as it did. -/
def keepFirstSpec : ChangeSpec := { name := "keepFirst", fn := fun _ => fun
  | [d1, d2, d3] => { results := [.lit (.bool true)], args := [d1, d2, d3] }
  | _ => none }
def keepFirstRow : OpenClaim := { program := "ytippdjmpkafifaagreat", sum := "cc2f59d2044524c0156d3000deb10b3ca745dd9652ef1e0e0785af0f1a9e59b9", func := "kerbside/kerbsidelaw34.KeepFirst", spec := "keepFirst", unfollowed := true, recurses := true, plainKeys := false, apart := false }
def KeepFirstSaid : Prop := keepFirstRow.holds Tryz.pinned (OpenSpec.ofChange keepFirstSpec)

/-- ITS FALSE NEIGHBOUR: 'it returns false'. Refute it at one input. -/
def keepFirstWrong : ChangeSpec := { name := "keepFirst", fn := fun _ => fun
  | [d1, d2, d3] => { results := [.lit (.bool false)], args := [d1, d2, d3] }
  | _ => none }
def KeepFirstWrongFalsely : Prop := keepFirstRow.holds Tryz.pinned (OpenSpec.ofChange keepFirstWrong)

/-- 'kerbsidelaw34.KeepFewer': WHATEVER THE INPUT: true; the input reads as it did. -/
def keepFewerSpec : ChangeSpec := { name := "keepFewer", fn := fun _ => fun
  | [d1, d2, d3] => { results := [.lit (.bool true)], args := [d1, d2, d3] }
  | _ => none }
def keepFewerRow : OpenClaim := { program := "ytippdjmpkafifaagreat", sum := "cc2f59d2044524c0156d3000deb10b3ca745dd9652ef1e0e0785af0f1a9e59b9", func := "kerbside/kerbsidelaw34.KeepFewer", spec := "keepFewer", unfollowed := true, recurses := true, plainKeys := false, apart := false }
def KeepFewerSaid : Prop := keepFewerRow.holds Tryz.pinned (OpenSpec.ofChange keepFewerSpec)

/-- ITS FALSE NEIGHBOUR: 'it returns false'. Refute it at one input. -/
def keepFewerWrong : ChangeSpec := { name := "keepFewer", fn := fun _ => fun
  | [d1, d2, d3] => { results := [.lit (.bool false)], args := [d1, d2, d3] }
  | _ => none }
def KeepFewerWrongFalsely : Prop := keepFewerRow.holds Tryz.pinned (OpenSpec.ofChange keepFewerWrong)

/-- 'kerbsidetop.TopPromised': WHATEVER THE INPUT: true; the input reads as it did. -/
def topPromisedSpec : ChangeSpec := { name := "topPromised", fn := fun _ => fun
  | [d1, d2, d3] => { results := [.lit (.bool true)], args := [d1, d2, d3] }
  | _ => none }
def topPromisedRow : OpenClaim := { program := "ytippdjmpkafifaagreat", sum := "cc2f59d2044524c0156d3000deb10b3ca745dd9652ef1e0e0785af0f1a9e59b9", func := "kerbside/kerbsidetop.TopPromised", spec := "topPromised", unfollowed := true, recurses := true, plainKeys := false, apart := false }
def TopPromisedSaid : Prop := topPromisedRow.holds Tryz.pinned (OpenSpec.ofChange topPromisedSpec)

/-- ITS FALSE NEIGHBOUR: 'it returns false'. Refute it at one input. -/
def topPromisedWrong : ChangeSpec := { name := "topPromised", fn := fun _ => fun
  | [d1, d2, d3] => { results := [.lit (.bool false)], args := [d1, d2, d3] }
  | _ => none }
def TopPromisedWrongFalsely : Prop := topPromisedRow.holds Tryz.pinned (OpenSpec.ofChange topPromisedWrong)

/-- 'kerbsidetop.TopKept': WHATEVER THE INPUT: true; the input reads as it did. -/
def topKeptSpec : ChangeSpec := { name := "topKept", fn := fun _ => fun
  | [d1, d2, d3, d4] => { results := [.lit (.bool true)], args := [d1, d2, d3, d4] }
  | _ => none }
def topKeptRow : OpenClaim := { program := "ytippdjmpkafifaagreat", sum := "cc2f59d2044524c0156d3000deb10b3ca745dd9652ef1e0e0785af0f1a9e59b9", func := "kerbside/kerbsidetop.TopKept", spec := "topKept", unfollowed := true, recurses := true, plainKeys := false, apart := false }
def TopKeptSaid : Prop := topKeptRow.holds Tryz.pinned (OpenSpec.ofChange topKeptSpec)

/-- ITS FALSE NEIGHBOUR: 'it returns false'. Refute it at one input. -/
def topKeptWrong : ChangeSpec := { name := "topKept", fn := fun _ => fun
  | [d1, d2, d3, d4] => { results := [.lit (.bool false)], args := [d1, d2, d3, d4] }
  | _ => none }
def TopKeptWrongFalsely : Prop := topKeptRow.holds Tryz.pinned (OpenSpec.ofChange topKeptWrong)

/- THE SECOND FORM. 'bulk': how many values and letters a reading holds, each counted each time it is reached (what is shared counts as often as it is met; a slice's spare places count too). A statement '..UptoSaid' is the law's where the arguments, and the package variables that the reading takes, are together of bulk at most 1048576: NARROWER than '..Said'. Prove '..Said' where nothing that the law and all that it calls make is longer than what came in: it says more and counts as full. Else prove '..UptoSaid'. A law counts once. -/
mutual
def uptoBulk {H : Type} : DataW H → Nat
  | .lit (.string bytes) => bytes.length + 1
  | .lit _ => 1
  | .nil => 1
  | .ptr d => uptoBulk d + 1
  | .slice elems spare => uptoBulkAll elems + uptoBulkAll spare + 1
  | .agg parts => uptoBulkAll parts + 1
  | .iface _ d => uptoBulk d + 1
  | .map entries => uptoBulkEntries entries + 1
  | .held _ => 1
def uptoBulkAll {H : Type} : List (DataW H) → Nat
  | [] => 0
  | d :: r => uptoBulk d + uptoBulkAll r
def uptoBulkEntries {H : Type} : List (Lit × DataW H) → Nat
  | [] => 0
  | x :: r => uptoBulkEntry x + uptoBulkEntries r
def uptoBulkEntry {H : Type} : Lit × DataW H → Nat
  | (.string bytes, d) => bytes.length + uptoBulk d + 1
  | (_, d) => uptoBulk d + 1
 end
def uptoSmall : (H : Type) → List (DataW H) → Bool := fun _ ds => decide (uptoBulkAll ds ≤ 1048576)
def OpenSpec.upto (s : _root_.Go.ChangeSpec) : _root_.Go.OpenSpec := { _root_.Go.OpenSpec.ofChange s with cond := some uptoSmall }

/-- 'kerbsidelaw32.PlanTells', WHERE WHAT IT READS IS OF BULK AT MOST 1048576: true; the input reads as it did. -/
def planTellsUptoRow : OpenClaim := { program := "ytippdjmpkafifaagreat", sum := "cc2f59d2044524c0156d3000deb10b3ca745dd9652ef1e0e0785af0f1a9e59b9", func := "kerbside/kerbsidelaw32.PlanTells", spec := "planTells", unfollowed := true, recurses := true, plainKeys := false, apart := false, narrowed := true }
def PlanTellsUptoSaid : Prop := planTellsUptoRow.holds Tryz.pinned (OpenSpec.upto planTellsSpec)

/-- 'kerbsidelaw33.PromiseTells', WHERE WHAT IT READS IS OF BULK AT MOST 1048576: true; the input reads as it did. -/
def promiseTellsUptoRow : OpenClaim := { program := "ytippdjmpkafifaagreat", sum := "cc2f59d2044524c0156d3000deb10b3ca745dd9652ef1e0e0785af0f1a9e59b9", func := "kerbside/kerbsidelaw33.PromiseTells", spec := "promiseTells", unfollowed := true, recurses := true, plainKeys := false, apart := false, narrowed := true }
def PromiseTellsUptoSaid : Prop := promiseTellsUptoRow.holds Tryz.pinned (OpenSpec.upto promiseTellsSpec)

/-- 'kerbsidelaw33.PromiseAnswers', WHERE WHAT IT READS IS OF BULK AT MOST 1048576: true; the input reads as it did. -/
def promiseAnswersUptoRow : OpenClaim := { program := "ytippdjmpkafifaagreat", sum := "cc2f59d2044524c0156d3000deb10b3ca745dd9652ef1e0e0785af0f1a9e59b9", func := "kerbside/kerbsidelaw33.PromiseAnswers", spec := "promiseAnswers", unfollowed := true, recurses := true, plainKeys := false, apart := false, narrowed := true }
def PromiseAnswersUptoSaid : Prop := promiseAnswersUptoRow.holds Tryz.pinned (OpenSpec.upto promiseAnswersSpec)

/-- 'kerbsidelaw33.PromiseSmallest', WHERE WHAT IT READS IS OF BULK AT MOST 1048576: true; the input reads as it did. -/
def promiseSmallestUptoRow : OpenClaim := { program := "ytippdjmpkafifaagreat", sum := "cc2f59d2044524c0156d3000deb10b3ca745dd9652ef1e0e0785af0f1a9e59b9", func := "kerbside/kerbsidelaw33.PromiseSmallest", spec := "promiseSmallest", unfollowed := true, recurses := true, plainKeys := false, apart := false, narrowed := true }
def PromiseSmallestUptoSaid : Prop := promiseSmallestUptoRow.holds Tryz.pinned (OpenSpec.upto promiseSmallestSpec)

/-- 'kerbsidelaw33.PromiseKeeps', WHERE WHAT IT READS IS OF BULK AT MOST 1048576: true; the input reads as it did. -/
def promiseKeepsUptoRow : OpenClaim := { program := "ytippdjmpkafifaagreat", sum := "cc2f59d2044524c0156d3000deb10b3ca745dd9652ef1e0e0785af0f1a9e59b9", func := "kerbside/kerbsidelaw33.PromiseKeeps", spec := "promiseKeeps", unfollowed := true, recurses := true, plainKeys := false, apart := false, narrowed := true }
def PromiseKeepsUptoSaid : Prop := promiseKeepsUptoRow.holds Tryz.pinned (OpenSpec.upto promiseKeepsSpec)

/-- 'kerbsidelaw33.PromiseLess', WHERE WHAT IT READS IS OF BULK AT MOST 1048576: true; the input reads as it did. -/
def promiseLessUptoRow : OpenClaim := { program := "ytippdjmpkafifaagreat", sum := "cc2f59d2044524c0156d3000deb10b3ca745dd9652ef1e0e0785af0f1a9e59b9", func := "kerbside/kerbsidelaw33.PromiseLess", spec := "promiseLess", unfollowed := true, recurses := true, plainKeys := false, apart := false, narrowed := true }
def PromiseLessUptoSaid : Prop := promiseLessUptoRow.holds Tryz.pinned (OpenSpec.upto promiseLessSpec)

/-- 'kerbsidelaw34.KeepTells', WHERE WHAT IT READS IS OF BULK AT MOST 1048576: true; the input reads as it did. -/
def keepTellsUptoRow : OpenClaim := { program := "ytippdjmpkafifaagreat", sum := "cc2f59d2044524c0156d3000deb10b3ca745dd9652ef1e0e0785af0f1a9e59b9", func := "kerbside/kerbsidelaw34.KeepTells", spec := "keepTells", unfollowed := true, recurses := true, plainKeys := false, apart := false, narrowed := true }
def KeepTellsUptoSaid : Prop := keepTellsUptoRow.holds Tryz.pinned (OpenSpec.upto keepTellsSpec)

/-- 'kerbsidelaw34.KeepFair', WHERE WHAT IT READS IS OF BULK AT MOST 1048576: true; the input reads as it did. -/
def keepFairUptoRow : OpenClaim := { program := "ytippdjmpkafifaagreat", sum := "cc2f59d2044524c0156d3000deb10b3ca745dd9652ef1e0e0785af0f1a9e59b9", func := "kerbside/kerbsidelaw34.KeepFair", spec := "keepFair", unfollowed := true, recurses := true, plainKeys := false, apart := false, narrowed := true }
def KeepFairUptoSaid : Prop := keepFairUptoRow.holds Tryz.pinned (OpenSpec.upto keepFairSpec)

/-- 'kerbsidelaw34.KeepChecks', WHERE WHAT IT READS IS OF BULK AT MOST 1048576: true; the input reads as it did. -/
def keepChecksUptoRow : OpenClaim := { program := "ytippdjmpkafifaagreat", sum := "cc2f59d2044524c0156d3000deb10b3ca745dd9652ef1e0e0785af0f1a9e59b9", func := "kerbside/kerbsidelaw34.KeepChecks", spec := "keepChecks", unfollowed := true, recurses := true, plainKeys := false, apart := false, narrowed := true }
def KeepChecksUptoSaid : Prop := keepChecksUptoRow.holds Tryz.pinned (OpenSpec.upto keepChecksSpec)

/-- 'kerbsidelaw34.KeepFirst', WHERE WHAT IT READS IS OF BULK AT MOST 1048576: true; the input reads as it did. -/
def keepFirstUptoRow : OpenClaim := { program := "ytippdjmpkafifaagreat", sum := "cc2f59d2044524c0156d3000deb10b3ca745dd9652ef1e0e0785af0f1a9e59b9", func := "kerbside/kerbsidelaw34.KeepFirst", spec := "keepFirst", unfollowed := true, recurses := true, plainKeys := false, apart := false, narrowed := true }
def KeepFirstUptoSaid : Prop := keepFirstUptoRow.holds Tryz.pinned (OpenSpec.upto keepFirstSpec)

/-- 'kerbsidelaw34.KeepFewer', WHERE WHAT IT READS IS OF BULK AT MOST 1048576: true; the input reads as it did. -/
def keepFewerUptoRow : OpenClaim := { program := "ytippdjmpkafifaagreat", sum := "cc2f59d2044524c0156d3000deb10b3ca745dd9652ef1e0e0785af0f1a9e59b9", func := "kerbside/kerbsidelaw34.KeepFewer", spec := "keepFewer", unfollowed := true, recurses := true, plainKeys := false, apart := false, narrowed := true }
def KeepFewerUptoSaid : Prop := keepFewerUptoRow.holds Tryz.pinned (OpenSpec.upto keepFewerSpec)

/-- 'kerbsidetop.TopPromised', WHERE WHAT IT READS IS OF BULK AT MOST 1048576: true; the input reads as it did. -/
def topPromisedUptoRow : OpenClaim := { program := "ytippdjmpkafifaagreat", sum := "cc2f59d2044524c0156d3000deb10b3ca745dd9652ef1e0e0785af0f1a9e59b9", func := "kerbside/kerbsidetop.TopPromised", spec := "topPromised", unfollowed := true, recurses := true, plainKeys := false, apart := false, narrowed := true }
def TopPromisedUptoSaid : Prop := topPromisedUptoRow.holds Tryz.pinned (OpenSpec.upto topPromisedSpec)

/-- 'kerbsidetop.TopKept', WHERE WHAT IT READS IS OF BULK AT MOST 1048576: true; the input reads as it did. -/
def topKeptUptoRow : OpenClaim := { program := "ytippdjmpkafifaagreat", sum := "cc2f59d2044524c0156d3000deb10b3ca745dd9652ef1e0e0785af0f1a9e59b9", func := "kerbside/kerbsidetop.TopKept", spec := "topKept", unfollowed := true, recurses := true, plainKeys := false, apart := false, narrowed := true }
def TopKeptUptoSaid : Prop := topKeptUptoRow.holds Tryz.pinned (OpenSpec.upto topKeptSpec)

end Rows
end Go.Proofs.YtippdjmpkafifaaGreat
