/-
  No cell of these rows narrows 'for every input' (looked for: loops, veiled, ifaces, maps, wideKeys, modest, calm, conditions, laid).
  DERIVED. THE GIVEN ROWS OF THIS SEAT. 11 by the template 'for every input the law returns true; each argument reads behind the call as it read before'; 0 by the template 'total and deterministic' (their statements: YtjcdpfpdjcannaaTotals.lean).
  GIVEN WITH THE SEED: the statements are not yours to turn. If you find one false, say at which input.
  Laid BY PROGRAM, IN A SANDBOX (cutbox-rows.mjs): the forced cells as the released guide's own fill.sh prints them over the translation eebcdcf3422e6dca… (all of the seat's roots in one cut). By AI agents, Wed Nov 11 2026. No macro, syntax, notation, axiom, sorry.
-/
import Derived.Test.YtjcdpfpdjcannaaChecked
import GoSem.Claim
import GoSem.ClaimJoined
import GoSem.ClaimMapViews
import Derived.JoinedTies
import Derived.KernelRfl
namespace Go.Proofs.Ytjcdpfpdjcannaa
/- THE CELL 'sum', in the pinned program and in every row, IS THE sha256 OF THE DUMP (.gsa) THAT YtjcdpfpdjcannaaProg.lean LOADS. Nothing in Lean hashes anything: it is a label: what it is worth is what the hold of that sum in a sandbox is worth. -/
noncomputable def Try.pinned : Pinned := { name := "ytjcdpfpdjcannaa", sum := "eebcdcf3422e6dca9782fac2115bb08c877afaed4e0cbb8c2062d394f517a764", checked := Try.checked }
namespace Rows
def none {H : Type} : Left H := { results := [], args := [] }

/-- 'kerbsidelaw30.TourTells': WHATEVER THE INPUT: true; the input reads as it did. -/
def tourTellsSpec : ChangeSpec := { name := "tourTells", fn := fun _ => fun
  | [d1, d2, d3, d4, d5] => { results := [.lit (.bool true)], args := [d1, d2, d3, d4, d5] }
  | _ => none }
def tourTellsRow : OpenClaim := { program := "ytjcdpfpdjcannaa", sum := "eebcdcf3422e6dca9782fac2115bb08c877afaed4e0cbb8c2062d394f517a764", func := "kerbside/kerbsidelaw30.TourTells", spec := "tourTells", unfollowed := true, recurses := true, plainKeys := false, apart := false }
def TourTellsSaid : Prop := tourTellsRow.holds Try.pinned (OpenSpec.ofChange tourTellsSpec)

/-- ITS FALSE NEIGHBOUR: 'it returns false'. Refute it at one input. -/
def tourTellsWrong : ChangeSpec := { name := "tourTells", fn := fun _ => fun
  | [d1, d2, d3, d4, d5] => { results := [.lit (.bool false)], args := [d1, d2, d3, d4, d5] }
  | _ => none }
def TourTellsWrongFalsely : Prop := tourTellsRow.holds Try.pinned (OpenSpec.ofChange tourTellsWrong)

/-- 'kerbsidelaw30.TourEarliest': WHATEVER THE INPUT: true; the input reads as it did. -/
def tourEarliestSpec : ChangeSpec := { name := "tourEarliest", fn := fun _ => fun
  | [d1, d2, d3, d4, d5] => { results := [.lit (.bool true)], args := [d1, d2, d3, d4, d5] }
  | _ => none }
def tourEarliestRow : OpenClaim := { program := "ytjcdpfpdjcannaa", sum := "eebcdcf3422e6dca9782fac2115bb08c877afaed4e0cbb8c2062d394f517a764", func := "kerbside/kerbsidelaw30.TourEarliest", spec := "tourEarliest", unfollowed := true, recurses := true, plainKeys := false, apart := false }
def TourEarliestSaid : Prop := tourEarliestRow.holds Try.pinned (OpenSpec.ofChange tourEarliestSpec)

/-- ITS FALSE NEIGHBOUR: 'it returns false'. Refute it at one input. -/
def tourEarliestWrong : ChangeSpec := { name := "tourEarliest", fn := fun _ => fun
  | [d1, d2, d3, d4, d5] => { results := [.lit (.bool false)], args := [d1, d2, d3, d4, d5] }
  | _ => none }
def TourEarliestWrongFalsely : Prop := tourEarliestRow.holds Try.pinned (OpenSpec.ofChange tourEarliestWrong)

/-- 'kerbsidelaw30.TourSkips': WHATEVER THE INPUT: true; the input reads as it did. -/
def tourSkipsSpec : ChangeSpec := { name := "tourSkips", fn := fun _ => fun
  | [d1, d2, d3, d4, d5] => { results := [.lit (.bool true)], args := [d1, d2, d3, d4, d5] }
  | _ => none }
def tourSkipsRow : OpenClaim := { program := "ytjcdpfpdjcannaa", sum := "eebcdcf3422e6dca9782fac2115bb08c877afaed4e0cbb8c2062d394f517a764", func := "kerbside/kerbsidelaw30.TourSkips", spec := "tourSkips", unfollowed := true, recurses := true, plainKeys := false, apart := false }
def TourSkipsSaid : Prop := tourSkipsRow.holds Try.pinned (OpenSpec.ofChange tourSkipsSpec)

/-- ITS FALSE NEIGHBOUR: 'it returns false'. Refute it at one input. -/
def tourSkipsWrong : ChangeSpec := { name := "tourSkips", fn := fun _ => fun
  | [d1, d2, d3, d4, d5] => { results := [.lit (.bool false)], args := [d1, d2, d3, d4, d5] }
  | _ => none }
def TourSkipsWrongFalsely : Prop := tourSkipsRow.holds Try.pinned (OpenSpec.ofChange tourSkipsWrong)

/-- 'kerbsidelaw30.TourBegins': WHATEVER THE INPUT: true; the input reads as it did. -/
def tourBeginsSpec : ChangeSpec := { name := "tourBegins", fn := fun _ => fun
  | [d1, d2, d3, d4, d5] => { results := [.lit (.bool true)], args := [d1, d2, d3, d4, d5] }
  | _ => none }
def tourBeginsRow : OpenClaim := { program := "ytjcdpfpdjcannaa", sum := "eebcdcf3422e6dca9782fac2115bb08c877afaed4e0cbb8c2062d394f517a764", func := "kerbside/kerbsidelaw30.TourBegins", spec := "tourBegins", unfollowed := true, recurses := true, plainKeys := false, apart := false }
def TourBeginsSaid : Prop := tourBeginsRow.holds Try.pinned (OpenSpec.ofChange tourBeginsSpec)

/-- ITS FALSE NEIGHBOUR: 'it returns false'. Refute it at one input. -/
def tourBeginsWrong : ChangeSpec := { name := "tourBegins", fn := fun _ => fun
  | [d1, d2, d3, d4, d5] => { results := [.lit (.bool false)], args := [d1, d2, d3, d4, d5] }
  | _ => none }
def TourBeginsWrongFalsely : Prop := tourBeginsRow.holds Try.pinned (OpenSpec.ofChange tourBeginsWrong)

/-- 'kerbsidelaw30.TourHeavy': WHATEVER THE INPUT: true; the input reads as it did. -/
def tourHeavySpec : ChangeSpec := { name := "tourHeavy", fn := fun _ => fun
  | [d1, d2, d3, d4, d5, d6] => { results := [.lit (.bool true)], args := [d1, d2, d3, d4, d5, d6] }
  | _ => none }
def tourHeavyRow : OpenClaim := { program := "ytjcdpfpdjcannaa", sum := "eebcdcf3422e6dca9782fac2115bb08c877afaed4e0cbb8c2062d394f517a764", func := "kerbside/kerbsidelaw30.TourHeavy", spec := "tourHeavy", unfollowed := true, recurses := true, plainKeys := false, apart := false }
def TourHeavySaid : Prop := tourHeavyRow.holds Try.pinned (OpenSpec.ofChange tourHeavySpec)

/-- ITS FALSE NEIGHBOUR: 'it returns false'. Refute it at one input. -/
def tourHeavyWrong : ChangeSpec := { name := "tourHeavy", fn := fun _ => fun
  | [d1, d2, d3, d4, d5, d6] => { results := [.lit (.bool false)], args := [d1, d2, d3, d4, d5, d6] }
  | _ => none }
def TourHeavyWrongFalsely : Prop := tourHeavyRow.holds Try.pinned (OpenSpec.ofChange tourHeavyWrong)

/-- 'kerbsidelaw31.RouteTells': WHATEVER THE INPUT: true; the input reads as it did. -/
def routeTellsSpec : ChangeSpec := { name := "routeTells", fn := fun _ => fun
  | [d1, d2, d3, d4, d5] => { results := [.lit (.bool true)], args := [d1, d2, d3, d4, d5] }
  | _ => none }
def routeTellsRow : OpenClaim := { program := "ytjcdpfpdjcannaa", sum := "eebcdcf3422e6dca9782fac2115bb08c877afaed4e0cbb8c2062d394f517a764", func := "kerbside/kerbsidelaw31.RouteTells", spec := "routeTells", unfollowed := true, recurses := true, plainKeys := false, apart := false }
def RouteTellsSaid : Prop := routeTellsRow.holds Try.pinned (OpenSpec.ofChange routeTellsSpec)

/-- ITS FALSE NEIGHBOUR: 'it returns false'. Refute it at one input. -/
def routeTellsWrong : ChangeSpec := { name := "routeTells", fn := fun _ => fun
  | [d1, d2, d3, d4, d5] => { results := [.lit (.bool false)], args := [d1, d2, d3, d4, d5] }
  | _ => none }
def RouteTellsWrongFalsely : Prop := routeTellsRow.holds Try.pinned (OpenSpec.ofChange routeTellsWrong)

/-- 'kerbsidelaw31.RouteProves': WHATEVER THE INPUT: true; the input reads as it did. -/
def routeProvesSpec : ChangeSpec := { name := "routeProves", fn := fun _ => fun
  | [d1, d2, d3, d4, d5, d6] => { results := [.lit (.bool true)], args := [d1, d2, d3, d4, d5, d6] }
  | _ => none }
def routeProvesRow : OpenClaim := { program := "ytjcdpfpdjcannaa", sum := "eebcdcf3422e6dca9782fac2115bb08c877afaed4e0cbb8c2062d394f517a764", func := "kerbside/kerbsidelaw31.RouteProves", spec := "routeProves", unfollowed := true, recurses := true, plainKeys := false, apart := false }
def RouteProvesSaid : Prop := routeProvesRow.holds Try.pinned (OpenSpec.ofChange routeProvesSpec)

/-- ITS FALSE NEIGHBOUR: 'it returns false'. Refute it at one input. -/
def routeProvesWrong : ChangeSpec := { name := "routeProves", fn := fun _ => fun
  | [d1, d2, d3, d4, d5, d6] => { results := [.lit (.bool false)], args := [d1, d2, d3, d4, d5, d6] }
  | _ => none }
def RouteProvesWrongFalsely : Prop := routeProvesRow.holds Try.pinned (OpenSpec.ofChange routeProvesWrong)

/-- 'kerbsidelaw31.RouteLess': WHATEVER THE INPUT: true; the input reads as it did. -/
def routeLessSpec : ChangeSpec := { name := "routeLess", fn := fun _ => fun
  | [d1, d2, d3, d4, d5] => { results := [.lit (.bool true)], args := [d1, d2, d3, d4, d5] }
  | _ => none }
def routeLessRow : OpenClaim := { program := "ytjcdpfpdjcannaa", sum := "eebcdcf3422e6dca9782fac2115bb08c877afaed4e0cbb8c2062d394f517a764", func := "kerbside/kerbsidelaw31.RouteLess", spec := "routeLess", unfollowed := true, recurses := true, plainKeys := false, apart := false }
def RouteLessSaid : Prop := routeLessRow.holds Try.pinned (OpenSpec.ofChange routeLessSpec)

/-- ITS FALSE NEIGHBOUR: 'it returns false'. Refute it at one input. -/
def routeLessWrong : ChangeSpec := { name := "routeLess", fn := fun _ => fun
  | [d1, d2, d3, d4, d5] => { results := [.lit (.bool false)], args := [d1, d2, d3, d4, d5] }
  | _ => none }
def RouteLessWrongFalsely : Prop := routeLessRow.holds Try.pinned (OpenSpec.ofChange routeLessWrong)

/-- 'kerbsidelaw31.RouteLocal': WHATEVER THE INPUT: true; the input reads as it did. -/
def routeLocalSpec : ChangeSpec := { name := "routeLocal", fn := fun _ => fun
  | [d1, d2, d3, d4] => { results := [.lit (.bool true)], args := [d1, d2, d3, d4] }
  | _ => none }
def routeLocalRow : OpenClaim := { program := "ytjcdpfpdjcannaa", sum := "eebcdcf3422e6dca9782fac2115bb08c877afaed4e0cbb8c2062d394f517a764", func := "kerbside/kerbsidelaw31.RouteLocal", spec := "routeLocal", unfollowed := true, recurses := true, plainKeys := false, apart := false }
def RouteLocalSaid : Prop := routeLocalRow.holds Try.pinned (OpenSpec.ofChange routeLocalSpec)

/-- ITS FALSE NEIGHBOUR: 'it returns false'. Refute it at one input. -/
def routeLocalWrong : ChangeSpec := { name := "routeLocal", fn := fun _ => fun
  | [d1, d2, d3, d4] => { results := [.lit (.bool false)], args := [d1, d2, d3, d4] }
  | _ => none }
def RouteLocalWrongFalsely : Prop := routeLocalRow.holds Try.pinned (OpenSpec.ofChange routeLocalWrong)

/-- 'kerbsidelaw31.RouteEarlier': WHATEVER THE INPUT: true; the input reads as it did. -/
def routeEarlierSpec : ChangeSpec := { name := "routeEarlier", fn := fun _ => fun
  | [d1, d2, d3, d4, d5] => { results := [.lit (.bool true)], args := [d1, d2, d3, d4, d5] }
  | _ => none }
def routeEarlierRow : OpenClaim := { program := "ytjcdpfpdjcannaa", sum := "eebcdcf3422e6dca9782fac2115bb08c877afaed4e0cbb8c2062d394f517a764", func := "kerbside/kerbsidelaw31.RouteEarlier", spec := "routeEarlier", unfollowed := true, recurses := true, plainKeys := false, apart := false }
def RouteEarlierSaid : Prop := routeEarlierRow.holds Try.pinned (OpenSpec.ofChange routeEarlierSpec)

/-- ITS FALSE NEIGHBOUR: 'it returns false'. Refute it at one input. -/
def routeEarlierWrong : ChangeSpec := { name := "routeEarlier", fn := fun _ => fun
  | [d1, d2, d3, d4, d5] => { results := [.lit (.bool false)], args := [d1, d2, d3, d4, d5] }
  | _ => none }
def RouteEarlierWrongFalsely : Prop := routeEarlierRow.holds Try.pinned (OpenSpec.ofChange routeEarlierWrong)

/-- 'kerbsidelaw31.RouteBest': WHATEVER THE INPUT: true; the input reads as it did. -/
def routeBestSpec : ChangeSpec := { name := "routeBest", fn := fun _ => fun
  | [d1, d2, d3, d4, d5] => { results := [.lit (.bool true)], args := [d1, d2, d3, d4, d5] }
  | _ => none }
def routeBestRow : OpenClaim := { program := "ytjcdpfpdjcannaa", sum := "eebcdcf3422e6dca9782fac2115bb08c877afaed4e0cbb8c2062d394f517a764", func := "kerbside/kerbsidelaw31.RouteBest", spec := "routeBest", unfollowed := true, recurses := true, plainKeys := false, apart := false }
def RouteBestSaid : Prop := routeBestRow.holds Try.pinned (OpenSpec.ofChange routeBestSpec)

/-- ITS FALSE NEIGHBOUR: 'it returns false'. Refute it at one input. -/
def routeBestWrong : ChangeSpec := { name := "routeBest", fn := fun _ => fun
  | [d1, d2, d3, d4, d5] => { results := [.lit (.bool false)], args := [d1, d2, d3, d4, d5] }
  | _ => none }
def RouteBestWrongFalsely : Prop := routeBestRow.holds Try.pinned (OpenSpec.ofChange routeBestWrong)

/- THE SECOND FORM. 'bulk': how many values and letters a reading holds, each counted each time it is reached (what is shared counts as often as it is met; a slice's spare places count too). A statement '..UptoSaid' is the law's where the arguments, and the package variables that the reading takes, are together of bulk at most 1048576: NARROWER than '..Said'. Prove '..Said' where nothing that the law and all that it calls make is longer than what came in: it says more and counts as full. Else prove '..UptoSaid'. A law counts once. -/
mutual
def uptoBulk {H : Type} : DataW H → Nat
  | .lit (.string bytes) => bytes.length + 1
  | .lit _ => 1
  | .nil => 1
  | .ptr d => uptoBulk d + 1
  | .slice elems spare => uptoBulkAll elems + uptoBulkAll spare + 1
  | .agg parts => uptoBulkAll parts + 1
  | .iface _ d => uptoBulk d + 1
  | .map entries => uptoBulkEntries entries + 1
  | .held _ => 1
def uptoBulkAll {H : Type} : List (DataW H) → Nat
  | [] => 0
  | d :: r => uptoBulk d + uptoBulkAll r
def uptoBulkEntries {H : Type} : List (Lit × DataW H) → Nat
  | [] => 0
  | x :: r => uptoBulkEntry x + uptoBulkEntries r
def uptoBulkEntry {H : Type} : Lit × DataW H → Nat
  | (.string bytes, d) => bytes.length + uptoBulk d + 1
  | (_, d) => uptoBulk d + 1
 end
def uptoSmall : (H : Type) → List (DataW H) → Bool := fun _ ds => decide (uptoBulkAll ds ≤ 1048576)
def OpenSpec.upto (s : _root_.Go.ChangeSpec) : _root_.Go.OpenSpec := { _root_.Go.OpenSpec.ofChange s with cond := some uptoSmall }

/-- 'kerbsidelaw30.TourTells', WHERE WHAT IT READS IS OF BULK AT MOST 1048576: true; the input reads as it did. -/
def tourTellsUptoRow : OpenClaim := { program := "ytjcdpfpdjcannaa", sum := "eebcdcf3422e6dca9782fac2115bb08c877afaed4e0cbb8c2062d394f517a764", func := "kerbside/kerbsidelaw30.TourTells", spec := "tourTells", unfollowed := true, recurses := true, plainKeys := false, apart := false, narrowed := true }
def TourTellsUptoSaid : Prop := tourTellsUptoRow.holds Try.pinned (OpenSpec.upto tourTellsSpec)

/-- 'kerbsidelaw30.TourEarliest', WHERE WHAT IT READS IS OF BULK AT MOST 1048576: true; the input reads as it did. -/
def tourEarliestUptoRow : OpenClaim := { program := "ytjcdpfpdjcannaa", sum := "eebcdcf3422e6dca9782fac2115bb08c877afaed4e0cbb8c2062d394f517a764", func := "kerbside/kerbsidelaw30.TourEarliest", spec := "tourEarliest", unfollowed := true, recurses := true, plainKeys := false, apart := false, narrowed := true }
def TourEarliestUptoSaid : Prop := tourEarliestUptoRow.holds Try.pinned (OpenSpec.upto tourEarliestSpec)

/-- 'kerbsidelaw30.TourSkips', WHERE WHAT IT READS IS OF BULK AT MOST 1048576: true; the input reads as it did. -/
def tourSkipsUptoRow : OpenClaim := { program := "ytjcdpfpdjcannaa", sum := "eebcdcf3422e6dca9782fac2115bb08c877afaed4e0cbb8c2062d394f517a764", func := "kerbside/kerbsidelaw30.TourSkips", spec := "tourSkips", unfollowed := true, recurses := true, plainKeys := false, apart := false, narrowed := true }
def TourSkipsUptoSaid : Prop := tourSkipsUptoRow.holds Try.pinned (OpenSpec.upto tourSkipsSpec)

/-- 'kerbsidelaw30.TourBegins', WHERE WHAT IT READS IS OF BULK AT MOST 1048576: true; the input reads as it did. -/
def tourBeginsUptoRow : OpenClaim := { program := "ytjcdpfpdjcannaa", sum := "eebcdcf3422e6dca9782fac2115bb08c877afaed4e0cbb8c2062d394f517a764", func := "kerbside/kerbsidelaw30.TourBegins", spec := "tourBegins", unfollowed := true, recurses := true, plainKeys := false, apart := false, narrowed := true }
def TourBeginsUptoSaid : Prop := tourBeginsUptoRow.holds Try.pinned (OpenSpec.upto tourBeginsSpec)

/-- 'kerbsidelaw30.TourHeavy', WHERE WHAT IT READS IS OF BULK AT MOST 1048576: true; the input reads as it did. -/
def tourHeavyUptoRow : OpenClaim := { program := "ytjcdpfpdjcannaa", sum := "eebcdcf3422e6dca9782fac2115bb08c877afaed4e0cbb8c2062d394f517a764", func := "kerbside/kerbsidelaw30.TourHeavy", spec := "tourHeavy", unfollowed := true, recurses := true, plainKeys := false, apart := false, narrowed := true }
def TourHeavyUptoSaid : Prop := tourHeavyUptoRow.holds Try.pinned (OpenSpec.upto tourHeavySpec)

/-- 'kerbsidelaw31.RouteTells', WHERE WHAT IT READS IS OF BULK AT MOST 1048576: true; the input reads as it did. -/
def routeTellsUptoRow : OpenClaim := { program := "ytjcdpfpdjcannaa", sum := "eebcdcf3422e6dca9782fac2115bb08c877afaed4e0cbb8c2062d394f517a764", func := "kerbside/kerbsidelaw31.RouteTells", spec := "routeTells", unfollowed := true, recurses := true, plainKeys := false, apart := false, narrowed := true }
def RouteTellsUptoSaid : Prop := routeTellsUptoRow.holds Try.pinned (OpenSpec.upto routeTellsSpec)

/-- 'kerbsidelaw31.RouteProves', WHERE WHAT IT READS IS OF BULK AT MOST 1048576: true; the input reads as it did. -/
def routeProvesUptoRow : OpenClaim := { program := "ytjcdpfpdjcannaa", sum := "eebcdcf3422e6dca9782fac2115bb08c877afaed4e0cbb8c2062d394f517a764", func := "kerbside/kerbsidelaw31.RouteProves", spec := "routeProves", unfollowed := true, recurses := true, plainKeys := false, apart := false, narrowed := true }
def RouteProvesUptoSaid : Prop := routeProvesUptoRow.holds Try.pinned (OpenSpec.upto routeProvesSpec)

/-- 'kerbsidelaw31.RouteLess', WHERE WHAT IT READS IS OF BULK AT MOST 1048576: true; the input reads as it did. -/
def routeLessUptoRow : OpenClaim := { program := "ytjcdpfpdjcannaa", sum := "eebcdcf3422e6dca9782fac2115bb08c877afaed4e0cbb8c2062d394f517a764", func := "kerbside/kerbsidelaw31.RouteLess", spec := "routeLess", unfollowed := true, recurses := true, plainKeys := false, apart := false, narrowed := true }
def RouteLessUptoSaid : Prop := routeLessUptoRow.holds Try.pinned (OpenSpec.upto routeLessSpec)

/-- 'kerbsidelaw31.RouteLocal', WHERE WHAT IT READS IS OF BULK AT MOST 1048576: true; the input reads as it did. -/
def routeLocalUptoRow : OpenClaim := { program := "ytjcdpfpdjcannaa", sum := "eebcdcf3422e6dca9782fac2115bb08c877afaed4e0cbb8c2062d394f517a764", func := "kerbside/kerbsidelaw31.RouteLocal", spec := "routeLocal", unfollowed := true, recurses := true, plainKeys := false, apart := false, narrowed := true }
def RouteLocalUptoSaid : Prop := routeLocalUptoRow.holds Try.pinned (OpenSpec.upto routeLocalSpec)

/-- 'kerbsidelaw31.RouteEarlier', WHERE WHAT IT READS IS OF BULK AT MOST 1048576: true; the input reads as it did. -/
def routeEarlierUptoRow : OpenClaim := { program := "ytjcdpfpdjcannaa", sum := "eebcdcf3422e6dca9782fac2115bb08c877afaed4e0cbb8c2062d394f517a764", func := "kerbside/kerbsidelaw31.RouteEarlier", spec := "routeEarlier", unfollowed := true, recurses := true, plainKeys := false, apart := false, narrowed := true }
def RouteEarlierUptoSaid : Prop := routeEarlierUptoRow.holds Try.pinned (OpenSpec.upto routeEarlierSpec)

/-- 'kerbsidelaw31.RouteBest', WHERE WHAT IT READS IS OF BULK AT MOST 1048576: true; the input reads as it did. -/
def routeBestUptoRow : OpenClaim := { program := "ytjcdpfpdjcannaa", sum := "eebcdcf3422e6dca9782fac2115bb08c877afaed4e0cbb8c2062d394f517a764", func := "kerbside/kerbsidelaw31.RouteBest", spec := "routeBest", unfollowed := true, recurses := true, plainKeys := false, apart := false, narrowed := true }
def RouteBestUptoSaid : Prop := routeBestUptoRow.holds Try.pinned (OpenSpec.upto routeBestSpec)

end Rows
end Go.Proofs.Ytjcdpfpdjcannaa
