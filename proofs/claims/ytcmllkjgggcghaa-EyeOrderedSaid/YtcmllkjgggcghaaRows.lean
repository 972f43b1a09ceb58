/-
  No cell of these rows narrows 'for every input' (looked for: loops, veiled, ifaces, maps, wideKeys, modest, calm, conditions, laid).
  DERIVED. THE GIVEN ROWS OF THIS SEAT. 10 by the template 'for every input the law returns true; each argument reads behind the call as it read before'; 0 by the template 'total and deterministic' (their statements: YtcmllkjgggcghaaTotals.lean).
  GIVEN WITH THE SEED: the statements are not yours to turn. If you find one false, say at which input.
  Laid BY PROGRAM, IN A SANDBOX (cutbox-rows.mjs): the forced cells as the released guide's own fill.sh prints them over the translation 1b14079c25c51398… (all of the seat's roots in one cut). By AI agents, Wed Nov 11 2026. No macro, syntax, notation, axiom, sorry.
-/
import Derived.Test.YtcmllkjgggcghaaChecked
import GoSem.Claim
import GoSem.ClaimJoined
import GoSem.ClaimMapViews
import Derived.JoinedTies
import Derived.KernelRfl
namespace Go.Proofs.Ytcmllkjgggcghaa
/- THE CELL 'sum', in the pinned program and in every row, IS THE sha256 OF THE DUMP (.gsa) THAT YtcmllkjgggcghaaProg.lean LOADS. Nothing in Lean hashes anything: it is a label: what it is worth is what the hold of that sum in a sandbox is worth. -/
noncomputable def Try.pinned : Pinned := { name := "ytcmllkjgggcghaa", sum := "1b14079c25c51398eea7a9831c36b2ad44fc44b35d4b7f1323067c02570a27f4", checked := Try.checked }
namespace Rows
def none {H : Type} : Left H := { results := [], args := [] }

/-- 'lampblacklaw10.EyeRegions': WHATEVER THE INPUT: true; the input reads as it did. -/
def eyeRegionsSpec : ChangeSpec := { name := "eyeRegions", fn := fun _ => fun
  | [d1, d2, d3] => { results := [.lit (.bool true)], args := [d1, d2, d3] }
  | _ => none }
def eyeRegionsRow : OpenClaim := { program := "ytcmllkjgggcghaa", sum := "1b14079c25c51398eea7a9831c36b2ad44fc44b35d4b7f1323067c02570a27f4", func := "lampblack/lampblacklaw10.EyeRegions", spec := "eyeRegions", unfollowed := true, recurses := true, plainKeys := false, apart := false }
def EyeRegionsSaid : Prop := eyeRegionsRow.holds Try.pinned (OpenSpec.ofChange eyeRegionsSpec)

/-- ITS FALSE NEIGHBOUR: 'it returns false'. Refute it at one input. -/
def eyeRegionsWrong : ChangeSpec := { name := "eyeRegions", fn := fun _ => fun
  | [d1, d2, d3] => { results := [.lit (.bool false)], args := [d1, d2, d3] }
  | _ => none }
def EyeRegionsWrongFalsely : Prop := eyeRegionsRow.holds Try.pinned (OpenSpec.ofChange eyeRegionsWrong)

/-- 'lampblacklaw10.EyeBests': WHATEVER THE INPUT: true; the input reads as it did. -/
def eyeBestsSpec : ChangeSpec := { name := "eyeBests", fn := fun _ => fun
  | [d1, d2] => { results := [.lit (.bool true)], args := [d1, d2] }
  | _ => none }
def eyeBestsRow : OpenClaim := { program := "ytcmllkjgggcghaa", sum := "1b14079c25c51398eea7a9831c36b2ad44fc44b35d4b7f1323067c02570a27f4", func := "lampblack/lampblacklaw10.EyeBests", spec := "eyeBests", unfollowed := true, recurses := true, plainKeys := false, apart := false }
def EyeBestsSaid : Prop := eyeBestsRow.holds Try.pinned (OpenSpec.ofChange eyeBestsSpec)

/-- ITS FALSE NEIGHBOUR: 'it returns false'. Refute it at one input. -/
def eyeBestsWrong : ChangeSpec := { name := "eyeBests", fn := fun _ => fun
  | [d1, d2] => { results := [.lit (.bool false)], args := [d1, d2] }
  | _ => none }
def EyeBestsWrongFalsely : Prop := eyeBestsRow.holds Try.pinned (OpenSpec.ofChange eyeBestsWrong)

/-- 'lampblacklaw10.EyePlans': WHATEVER THE INPUT: true; the input reads as it did. -/
def eyePlansSpec : ChangeSpec := { name := "eyePlans", fn := fun _ => fun
  | [d1, d2, d3, d4, d5] => { results := [.lit (.bool true)], args := [d1, d2, d3, d4, d5] }
  | _ => none }
def eyePlansRow : OpenClaim := { program := "ytcmllkjgggcghaa", sum := "1b14079c25c51398eea7a9831c36b2ad44fc44b35d4b7f1323067c02570a27f4", func := "lampblack/lampblacklaw10.EyePlans", spec := "eyePlans", unfollowed := true, recurses := true, plainKeys := false, apart := false }
def EyePlansSaid : Prop := eyePlansRow.holds Try.pinned (OpenSpec.ofChange eyePlansSpec)

/-- ITS FALSE NEIGHBOUR: 'it returns false'. Refute it at one input. -/
def eyePlansWrong : ChangeSpec := { name := "eyePlans", fn := fun _ => fun
  | [d1, d2, d3, d4, d5] => { results := [.lit (.bool false)], args := [d1, d2, d3, d4, d5] }
  | _ => none }
def EyePlansWrongFalsely : Prop := eyePlansRow.holds Try.pinned (OpenSpec.ofChange eyePlansWrong)

/-- 'lampblacklaw10.EyeTails': WHATEVER THE INPUT: true; the input reads as it did. -/
def eyeTailsSpec : ChangeSpec := { name := "eyeTails", fn := fun _ => fun
  | [d1, d2, d3, d4] => { results := [.lit (.bool true)], args := [d1, d2, d3, d4] }
  | _ => none }
def eyeTailsRow : OpenClaim := { program := "ytcmllkjgggcghaa", sum := "1b14079c25c51398eea7a9831c36b2ad44fc44b35d4b7f1323067c02570a27f4", func := "lampblack/lampblacklaw10.EyeTails", spec := "eyeTails", unfollowed := true, recurses := true, plainKeys := false, apart := false }
def EyeTailsSaid : Prop := eyeTailsRow.holds Try.pinned (OpenSpec.ofChange eyeTailsSpec)

/-- ITS FALSE NEIGHBOUR: 'it returns false'. Refute it at one input. -/
def eyeTailsWrong : ChangeSpec := { name := "eyeTails", fn := fun _ => fun
  | [d1, d2, d3, d4] => { results := [.lit (.bool false)], args := [d1, d2, d3, d4] }
  | _ => none }
def EyeTailsWrongFalsely : Prop := eyeTailsRow.holds Try.pinned (OpenSpec.ofChange eyeTailsWrong)

/-- 'lampblacklaw10.EyePlanned': WHATEVER THE INPUT: true; the input reads as it did. -/
def eyePlannedSpec : ChangeSpec := { name := "eyePlanned", fn := fun _ => fun
  | [d1, d2, d3, d4, d5, d6, d7] => { results := [.lit (.bool true)], args := [d1, d2, d3, d4, d5, d6, d7] }
  | _ => none }
def eyePlannedRow : OpenClaim := { program := "ytcmllkjgggcghaa", sum := "1b14079c25c51398eea7a9831c36b2ad44fc44b35d4b7f1323067c02570a27f4", func := "lampblack/lampblacklaw10.EyePlanned", spec := "eyePlanned", unfollowed := true, recurses := true, plainKeys := false, apart := false }
def EyePlannedSaid : Prop := eyePlannedRow.holds Try.pinned (OpenSpec.ofChange eyePlannedSpec)

/-- ITS FALSE NEIGHBOUR: 'it returns false'. Refute it at one input. -/
def eyePlannedWrong : ChangeSpec := { name := "eyePlanned", fn := fun _ => fun
  | [d1, d2, d3, d4, d5, d6, d7] => { results := [.lit (.bool false)], args := [d1, d2, d3, d4, d5, d6, d7] }
  | _ => none }
def EyePlannedWrongFalsely : Prop := eyePlannedRow.holds Try.pinned (OpenSpec.ofChange eyePlannedWrong)

/-- 'lampblacklaw10.EyeOdds': WHATEVER THE INPUT: true; the input reads as it did. -/
def eyeOddsSpec : ChangeSpec := { name := "eyeOdds", fn := fun _ => fun
  | [d1, d2, d3] => { results := [.lit (.bool true)], args := [d1, d2, d3] }
  | _ => none }
def eyeOddsRow : OpenClaim := { program := "ytcmllkjgggcghaa", sum := "1b14079c25c51398eea7a9831c36b2ad44fc44b35d4b7f1323067c02570a27f4", func := "lampblack/lampblacklaw10.EyeOdds", spec := "eyeOdds", unfollowed := true, recurses := true, plainKeys := false, apart := false }
def EyeOddsSaid : Prop := eyeOddsRow.holds Try.pinned (OpenSpec.ofChange eyeOddsSpec)

/-- ITS FALSE NEIGHBOUR: 'it returns false'. Refute it at one input. -/
def eyeOddsWrong : ChangeSpec := { name := "eyeOdds", fn := fun _ => fun
  | [d1, d2, d3] => { results := [.lit (.bool false)], args := [d1, d2, d3] }
  | _ => none }
def EyeOddsWrongFalsely : Prop := eyeOddsRow.holds Try.pinned (OpenSpec.ofChange eyeOddsWrong)

/-- 'lampblacklaw10.EyeStrongest': WHATEVER THE INPUT: true; the input reads as it did. -/
def eyeStrongestSpec : ChangeSpec := { name := "eyeStrongest", fn := fun _ => fun
  | [d1, d2, d3, d4, d5] => { results := [.lit (.bool true)], args := [d1, d2, d3, d4, d5] }
  | _ => none }
def eyeStrongestRow : OpenClaim := { program := "ytcmllkjgggcghaa", sum := "1b14079c25c51398eea7a9831c36b2ad44fc44b35d4b7f1323067c02570a27f4", func := "lampblack/lampblacklaw10.EyeStrongest", spec := "eyeStrongest", unfollowed := true, recurses := true, plainKeys := false, apart := false }
def EyeStrongestSaid : Prop := eyeStrongestRow.holds Try.pinned (OpenSpec.ofChange eyeStrongestSpec)

/-- ITS FALSE NEIGHBOUR: 'it returns false'. Refute it at one input. -/
def eyeStrongestWrong : ChangeSpec := { name := "eyeStrongest", fn := fun _ => fun
  | [d1, d2, d3, d4, d5] => { results := [.lit (.bool false)], args := [d1, d2, d3, d4, d5] }
  | _ => none }
def EyeStrongestWrongFalsely : Prop := eyeStrongestRow.holds Try.pinned (OpenSpec.ofChange eyeStrongestWrong)

/-- 'lampblacklaw10.EyeNested': WHATEVER THE INPUT: true; the input reads as it did. -/
def eyeNestedSpec : ChangeSpec := { name := "eyeNested", fn := fun _ => fun
  | [d1, d2, d3, d4, d5] => { results := [.lit (.bool true)], args := [d1, d2, d3, d4, d5] }
  | _ => none }
def eyeNestedRow : OpenClaim := { program := "ytcmllkjgggcghaa", sum := "1b14079c25c51398eea7a9831c36b2ad44fc44b35d4b7f1323067c02570a27f4", func := "lampblack/lampblacklaw10.EyeNested", spec := "eyeNested", unfollowed := true, recurses := true, plainKeys := false, apart := false }
def EyeNestedSaid : Prop := eyeNestedRow.holds Try.pinned (OpenSpec.ofChange eyeNestedSpec)

/-- ITS FALSE NEIGHBOUR: 'it returns false'. Refute it at one input. -/
def eyeNestedWrong : ChangeSpec := { name := "eyeNested", fn := fun _ => fun
  | [d1, d2, d3, d4, d5] => { results := [.lit (.bool false)], args := [d1, d2, d3, d4, d5] }
  | _ => none }
def EyeNestedWrongFalsely : Prop := eyeNestedRow.holds Try.pinned (OpenSpec.ofChange eyeNestedWrong)

/-- 'lampblacklaw10.EyeOrdered': WHATEVER THE INPUT: true; the input reads as it did. -/
def eyeOrderedSpec : ChangeSpec := { name := "eyeOrdered", fn := fun _ => fun
  | [d1, d2, d3, d4, d5] => { results := [.lit (.bool true)], args := [d1, d2, d3, d4, d5] }
  | _ => none }
def eyeOrderedRow : OpenClaim := { program := "ytcmllkjgggcghaa", sum := "1b14079c25c51398eea7a9831c36b2ad44fc44b35d4b7f1323067c02570a27f4", func := "lampblack/lampblacklaw10.EyeOrdered", spec := "eyeOrdered", unfollowed := true, recurses := true, plainKeys := false, apart := false }
def EyeOrderedSaid : Prop := eyeOrderedRow.holds Try.pinned (OpenSpec.ofChange eyeOrderedSpec)

/-- ITS FALSE NEIGHBOUR: 'it returns false'. Refute it at one input. -/
def eyeOrderedWrong : ChangeSpec := { name := "eyeOrdered", fn := fun _ => fun
  | [d1, d2, d3, d4, d5] => { results := [.lit (.bool false)], args := [d1, d2, d3, d4, d5] }
  | _ => none }
def EyeOrderedWrongFalsely : Prop := eyeOrderedRow.holds Try.pinned (OpenSpec.ofChange eyeOrderedWrong)

/-- 'lampblacklaw10.EyeKnown': WHATEVER THE INPUT: true; the input reads as it did. -/
def eyeKnownSpec : ChangeSpec := { name := "eyeKnown", fn := fun _ => fun
  | [] => { results := [.lit (.bool true)], args := [] }
  | _ => none }
def eyeKnownRow : OpenClaim := { program := "ytcmllkjgggcghaa", sum := "1b14079c25c51398eea7a9831c36b2ad44fc44b35d4b7f1323067c02570a27f4", func := "lampblack/lampblacklaw10.EyeKnown", spec := "eyeKnown", unfollowed := true, recurses := true, plainKeys := false, apart := false }
def EyeKnownSaid : Prop := eyeKnownRow.holds Try.pinned (OpenSpec.ofChange eyeKnownSpec)

/-- ITS FALSE NEIGHBOUR: 'it returns false'. Refute it at one input. -/
def eyeKnownWrong : ChangeSpec := { name := "eyeKnown", fn := fun _ => fun
  | [] => { results := [.lit (.bool false)], args := [] }
  | _ => none }
def EyeKnownWrongFalsely : Prop := eyeKnownRow.holds Try.pinned (OpenSpec.ofChange eyeKnownWrong)

/- THE SECOND FORM. 'bulk': how many values and letters a reading holds, each counted each time it is reached (what is shared counts as often as it is met; a slice's spare places count too). A statement '..UptoSaid' is the law's where the arguments, and the package variables that the reading takes, are together of bulk at most 1048576: NARROWER than '..Said'. Prove '..Said' where nothing that the law and all that it calls make is longer than what came in: it says more and counts as full. Else prove '..UptoSaid'. A law counts once. -/
mutual
def uptoBulk {H : Type} : DataW H → Nat
  | .lit (.string bytes) => bytes.length + 1
  | .lit _ => 1
  | .nil => 1
  | .ptr d => uptoBulk d + 1
  | .slice elems spare => uptoBulkAll elems + uptoBulkAll spare + 1
  | .agg parts => uptoBulkAll parts + 1
  | .iface _ d => uptoBulk d + 1
  | .map entries => uptoBulkEntries entries + 1
  | .held _ => 1
def uptoBulkAll {H : Type} : List (DataW H) → Nat
  | [] => 0
  | d :: r => uptoBulk d + uptoBulkAll r
def uptoBulkEntries {H : Type} : List (Lit × DataW H) → Nat
  | [] => 0
  | x :: r => uptoBulkEntry x + uptoBulkEntries r
def uptoBulkEntry {H : Type} : Lit × DataW H → Nat
  | (.string bytes, d) => bytes.length + uptoBulk d + 1
  | (_, d) => uptoBulk d + 1
 end
def uptoSmall : (H : Type) → List (DataW H) → Bool := fun _ ds => decide (uptoBulkAll ds ≤ 1048576)
def OpenSpec.upto (s : _root_.Go.ChangeSpec) : _root_.Go.OpenSpec := { _root_.Go.OpenSpec.ofChange s with cond := some uptoSmall }

/-- 'lampblacklaw10.EyeRegions', WHERE WHAT IT READS IS OF BULK AT MOST 1048576: true; the input reads as it did. -/
def eyeRegionsUptoRow : OpenClaim := { program := "ytcmllkjgggcghaa", sum := "1b14079c25c51398eea7a9831c36b2ad44fc44b35d4b7f1323067c02570a27f4", func := "lampblack/lampblacklaw10.EyeRegions", spec := "eyeRegions", unfollowed := true, recurses := true, plainKeys := false, apart := false, narrowed := true }
def EyeRegionsUptoSaid : Prop := eyeRegionsUptoRow.holds Try.pinned (OpenSpec.upto eyeRegionsSpec)

/-- 'lampblacklaw10.EyeBests', WHERE WHAT IT READS IS OF BULK AT MOST 1048576: true; the input reads as it did. -/
def eyeBestsUptoRow : OpenClaim := { program := "ytcmllkjgggcghaa", sum := "1b14079c25c51398eea7a9831c36b2ad44fc44b35d4b7f1323067c02570a27f4", func := "lampblack/lampblacklaw10.EyeBests", spec := "eyeBests", unfollowed := true, recurses := true, plainKeys := false, apart := false, narrowed := true }
def EyeBestsUptoSaid : Prop := eyeBestsUptoRow.holds Try.pinned (OpenSpec.upto eyeBestsSpec)

/-- 'lampblacklaw10.EyePlans', WHERE WHAT IT READS IS OF BULK AT MOST 1048576: true; the input reads as it did. -/
def eyePlansUptoRow : OpenClaim := { program := "ytcmllkjgggcghaa", sum := "1b14079c25c51398eea7a9831c36b2ad44fc44b35d4b7f1323067c02570a27f4", func := "lampblack/lampblacklaw10.EyePlans", spec := "eyePlans", unfollowed := true, recurses := true, plainKeys := false, apart := false, narrowed := true }
def EyePlansUptoSaid : Prop := eyePlansUptoRow.holds Try.pinned (OpenSpec.upto eyePlansSpec)

/-- 'lampblacklaw10.EyeTails', WHERE WHAT IT READS IS OF BULK AT MOST 1048576: true; the input reads as it did. -/
def eyeTailsUptoRow : OpenClaim := { program := "ytcmllkjgggcghaa", sum := "1b14079c25c51398eea7a9831c36b2ad44fc44b35d4b7f1323067c02570a27f4", func := "lampblack/lampblacklaw10.EyeTails", spec := "eyeTails", unfollowed := true, recurses := true, plainKeys := false, apart := false, narrowed := true }
def EyeTailsUptoSaid : Prop := eyeTailsUptoRow.holds Try.pinned (OpenSpec.upto eyeTailsSpec)

/-- 'lampblacklaw10.EyePlanned', WHERE WHAT IT READS IS OF BULK AT MOST 1048576: true; the input reads as it did. -/
def eyePlannedUptoRow : OpenClaim := { program := "ytcmllkjgggcghaa", sum := "1b14079c25c51398eea7a9831c36b2ad44fc44b35d4b7f1323067c02570a27f4", func := "lampblack/lampblacklaw10.EyePlanned", spec := "eyePlanned", unfollowed := true, recurses := true, plainKeys := false, apart := false, narrowed := true }
def EyePlannedUptoSaid : Prop := eyePlannedUptoRow.holds Try.pinned (OpenSpec.upto eyePlannedSpec)

/-- 'lampblacklaw10.EyeOdds', WHERE WHAT IT READS IS OF BULK AT MOST 1048576: true; the input reads as it did. -/
def eyeOddsUptoRow : OpenClaim := { program := "ytcmllkjgggcghaa", sum := "1b14079c25c51398eea7a9831c36b2ad44fc44b35d4b7f1323067c02570a27f4", func := "lampblack/lampblacklaw10.EyeOdds", spec := "eyeOdds", unfollowed := true, recurses := true, plainKeys := false, apart := false, narrowed := true }
def EyeOddsUptoSaid : Prop := eyeOddsUptoRow.holds Try.pinned (OpenSpec.upto eyeOddsSpec)

/-- 'lampblacklaw10.EyeStrongest', WHERE WHAT IT READS IS OF BULK AT MOST 1048576: true; the input reads as it did. -/
def eyeStrongestUptoRow : OpenClaim := { program := "ytcmllkjgggcghaa", sum := "1b14079c25c51398eea7a9831c36b2ad44fc44b35d4b7f1323067c02570a27f4", func := "lampblack/lampblacklaw10.EyeStrongest", spec := "eyeStrongest", unfollowed := true, recurses := true, plainKeys := false, apart := false, narrowed := true }
def EyeStrongestUptoSaid : Prop := eyeStrongestUptoRow.holds Try.pinned (OpenSpec.upto eyeStrongestSpec)

/-- 'lampblacklaw10.EyeNested', WHERE WHAT IT READS IS OF BULK AT MOST 1048576: true; the input reads as it did. -/
def eyeNestedUptoRow : OpenClaim := { program := "ytcmllkjgggcghaa", sum := "1b14079c25c51398eea7a9831c36b2ad44fc44b35d4b7f1323067c02570a27f4", func := "lampblack/lampblacklaw10.EyeNested", spec := "eyeNested", unfollowed := true, recurses := true, plainKeys := false, apart := false, narrowed := true }
def EyeNestedUptoSaid : Prop := eyeNestedUptoRow.holds Try.pinned (OpenSpec.upto eyeNestedSpec)

/-- 'lampblacklaw10.EyeOrdered', WHERE WHAT IT READS IS OF BULK AT MOST 1048576: true; the input reads as it did. -/
def eyeOrderedUptoRow : OpenClaim := { program := "ytcmllkjgggcghaa", sum := "1b14079c25c51398eea7a9831c36b2ad44fc44b35d4b7f1323067c02570a27f4", func := "lampblack/lampblacklaw10.EyeOrdered", spec := "eyeOrdered", unfollowed := true, recurses := true, plainKeys := false, apart := false, narrowed := true }
def EyeOrderedUptoSaid : Prop := eyeOrderedUptoRow.holds Try.pinned (OpenSpec.upto eyeOrderedSpec)

/-- 'lampblacklaw10.EyeKnown', WHERE WHAT IT READS IS OF BULK AT MOST 1048576: true; the input reads as it did. -/
def eyeKnownUptoRow : OpenClaim := { program := "ytcmllkjgggcghaa", sum := "1b14079c25c51398eea7a9831c36b2ad44fc44b35d4b7f1323067c02570a27f4", func := "lampblack/lampblacklaw10.EyeKnown", spec := "eyeKnown", unfollowed := true, recurses := true, plainKeys := false, apart := false, narrowed := true }
def EyeKnownUptoSaid : Prop := eyeKnownUptoRow.holds Try.pinned (OpenSpec.upto eyeKnownSpec)

end Rows
end Go.Proofs.Ytcmllkjgggcghaa
