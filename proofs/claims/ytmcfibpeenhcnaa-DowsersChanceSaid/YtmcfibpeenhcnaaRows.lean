/-
  No cell of these rows narrows 'for every input' (looked for: loops, veiled, ifaces, maps, wideKeys, modest, calm, conditions, laid).
  DERIVED. THE GIVEN ROWS OF THIS SEAT. 12 by the template 'for every input the law returns true; each argument reads behind the call as it read before'; 0 by the template 'total and deterministic' (their statements: YtmcfibpeenhcnaaTotals.lean).
  GIVEN WITH THE SEED: the statements are not yours to turn. If you find one false, say at which input.
  Laid BY PROGRAM, IN A SANDBOX (cutbox-rows.mjs): the forced cells as the released guide's own fill.sh prints them over the translation d877e03f173166f9… (all of the seat's roots in one cut). By AI agents, Wed Nov 11 2026. No macro, syntax, notation, axiom, sorry.
-/
import Derived.Test.YtmcfibpeenhcnaaChecked
import GoSem.Claim
import GoSem.ClaimJoined
import GoSem.ClaimMapViews
import Derived.JoinedTies
import Derived.KernelRfl
namespace Go.Proofs.Ytmcfibpeenhcnaa
/- THE CELL 'sum', in the pinned program and in every row, IS THE sha256 OF THE DUMP (.gsa) THAT YtmcfibpeenhcnaaProg.lean LOADS. Nothing in Lean hashes anything: it is a label: what it is worth is what the hold of that sum in a sandbox is worth. -/
noncomputable def Try.pinned : Pinned := { name := "ytmcfibpeenhcnaa", sum := "d877e03f173166f97dd0a2de9ef4ce8162ad67a27ac15ea1d5e63d7fdee1fd74", checked := Try.checked }
namespace Rows
def none {H : Type} : Left H := { results := [], args := [] }

/-- 'steeninglaw04.DowsersEach': WHATEVER THE INPUT: true; the input reads as it did. -/
def dowsersEachSpec : ChangeSpec := { name := "dowsersEach", fn := fun _ => fun
  | [d1, d2, d3] => { results := [.lit (.bool true)], args := [d1, d2, d3] }
  | _ => none }
def dowsersEachRow : OpenClaim := { program := "ytmcfibpeenhcnaa", sum := "d877e03f173166f97dd0a2de9ef4ce8162ad67a27ac15ea1d5e63d7fdee1fd74", func := "steening/steeninglaw04.DowsersEach", spec := "dowsersEach", unfollowed := true, recurses := true, plainKeys := false, apart := false }
def DowsersEachSaid : Prop := dowsersEachRow.holds Try.pinned (OpenSpec.ofChange dowsersEachSpec)

/-- ITS FALSE NEIGHBOUR: 'it returns false'. Refute it at one input. -/
def dowsersEachWrong : ChangeSpec := { name := "dowsersEach", fn := fun _ => fun
  | [d1, d2, d3] => { results := [.lit (.bool false)], args := [d1, d2, d3] }
  | _ => none }
def DowsersEachWrongFalsely : Prop := dowsersEachRow.holds Try.pinned (OpenSpec.ofChange dowsersEachWrong)

/-- 'steeninglaw04.DowsersChances': WHATEVER THE INPUT: true; the input reads as it did. -/
def dowsersChancesSpec : ChangeSpec := { name := "dowsersChances", fn := fun _ => fun
  | [d1, d2] => { results := [.lit (.bool true)], args := [d1, d2] }
  | _ => none }
def dowsersChancesRow : OpenClaim := { program := "ytmcfibpeenhcnaa", sum := "d877e03f173166f97dd0a2de9ef4ce8162ad67a27ac15ea1d5e63d7fdee1fd74", func := "steening/steeninglaw04.DowsersChances", spec := "dowsersChances", unfollowed := true, recurses := true, plainKeys := false, apart := false }
def DowsersChancesSaid : Prop := dowsersChancesRow.holds Try.pinned (OpenSpec.ofChange dowsersChancesSpec)

/-- ITS FALSE NEIGHBOUR: 'it returns false'. Refute it at one input. -/
def dowsersChancesWrong : ChangeSpec := { name := "dowsersChances", fn := fun _ => fun
  | [d1, d2] => { results := [.lit (.bool false)], args := [d1, d2] }
  | _ => none }
def DowsersChancesWrongFalsely : Prop := dowsersChancesRow.holds Try.pinned (OpenSpec.ofChange dowsersChancesWrong)

/-- 'steeninglaw04.DowsersPurse': WHATEVER THE INPUT: true; the input reads as it did. -/
def dowsersPurseSpec : ChangeSpec := { name := "dowsersPurse", fn := fun _ => fun
  | [d1, d2, d3] => { results := [.lit (.bool true)], args := [d1, d2, d3] }
  | _ => none }
def dowsersPurseRow : OpenClaim := { program := "ytmcfibpeenhcnaa", sum := "d877e03f173166f97dd0a2de9ef4ce8162ad67a27ac15ea1d5e63d7fdee1fd74", func := "steening/steeninglaw04.DowsersPurse", spec := "dowsersPurse", unfollowed := true, recurses := true, plainKeys := false, apart := false }
def DowsersPurseSaid : Prop := dowsersPurseRow.holds Try.pinned (OpenSpec.ofChange dowsersPurseSpec)

/-- ITS FALSE NEIGHBOUR: 'it returns false'. Refute it at one input. -/
def dowsersPurseWrong : ChangeSpec := { name := "dowsersPurse", fn := fun _ => fun
  | [d1, d2, d3] => { results := [.lit (.bool false)], args := [d1, d2, d3] }
  | _ => none }
def DowsersPurseWrongFalsely : Prop := dowsersPurseRow.holds Try.pinned (OpenSpec.ofChange dowsersPurseWrong)

/-- 'steeninglaw04.DowsersScore': WHATEVER THE INPUT: true; the input reads as it did. -/
def dowsersScoreSpec : ChangeSpec := { name := "dowsersScore", fn := fun _ => fun
  | [d1, d2] => { results := [.lit (.bool true)], args := [d1, d2] }
  | _ => none }
def dowsersScoreRow : OpenClaim := { program := "ytmcfibpeenhcnaa", sum := "d877e03f173166f97dd0a2de9ef4ce8162ad67a27ac15ea1d5e63d7fdee1fd74", func := "steening/steeninglaw04.DowsersScore", spec := "dowsersScore", unfollowed := true, recurses := true, plainKeys := false, apart := false }
def DowsersScoreSaid : Prop := dowsersScoreRow.holds Try.pinned (OpenSpec.ofChange dowsersScoreSpec)

/-- ITS FALSE NEIGHBOUR: 'it returns false'. Refute it at one input. -/
def dowsersScoreWrong : ChangeSpec := { name := "dowsersScore", fn := fun _ => fun
  | [d1, d2] => { results := [.lit (.bool false)], args := [d1, d2] }
  | _ => none }
def DowsersScoreWrongFalsely : Prop := dowsersScoreRow.holds Try.pinned (OpenSpec.ofChange dowsersScoreWrong)

/-- 'steeninglaw04.DowsersMany': WHATEVER THE INPUT: true; the input reads as it did. -/
def dowsersManySpec : ChangeSpec := { name := "dowsersMany", fn := fun _ => fun
  | [d1, d2] => { results := [.lit (.bool true)], args := [d1, d2] }
  | _ => none }
def dowsersManyRow : OpenClaim := { program := "ytmcfibpeenhcnaa", sum := "d877e03f173166f97dd0a2de9ef4ce8162ad67a27ac15ea1d5e63d7fdee1fd74", func := "steening/steeninglaw04.DowsersMany", spec := "dowsersMany", unfollowed := true, recurses := true, plainKeys := false, apart := false }
def DowsersManySaid : Prop := dowsersManyRow.holds Try.pinned (OpenSpec.ofChange dowsersManySpec)

/-- ITS FALSE NEIGHBOUR: 'it returns false'. Refute it at one input. -/
def dowsersManyWrong : ChangeSpec := { name := "dowsersMany", fn := fun _ => fun
  | [d1, d2] => { results := [.lit (.bool false)], args := [d1, d2] }
  | _ => none }
def DowsersManyWrongFalsely : Prop := dowsersManyRow.holds Try.pinned (OpenSpec.ofChange dowsersManyWrong)

/-- 'steeninglaw04.DowsersChance': WHATEVER THE INPUT: true; the input reads as it did. -/
def dowsersChanceSpec : ChangeSpec := { name := "dowsersChance", fn := fun _ => fun
  | [d1, d2] => { results := [.lit (.bool true)], args := [d1, d2] }
  | _ => none }
def dowsersChanceRow : OpenClaim := { program := "ytmcfibpeenhcnaa", sum := "d877e03f173166f97dd0a2de9ef4ce8162ad67a27ac15ea1d5e63d7fdee1fd74", func := "steening/steeninglaw04.DowsersChance", spec := "dowsersChance", unfollowed := true, recurses := true, plainKeys := false, apart := false }
def DowsersChanceSaid : Prop := dowsersChanceRow.holds Try.pinned (OpenSpec.ofChange dowsersChanceSpec)

/-- ITS FALSE NEIGHBOUR: 'it returns false'. Refute it at one input. -/
def dowsersChanceWrong : ChangeSpec := { name := "dowsersChance", fn := fun _ => fun
  | [d1, d2] => { results := [.lit (.bool false)], args := [d1, d2] }
  | _ => none }
def DowsersChanceWrongFalsely : Prop := dowsersChanceRow.holds Try.pinned (OpenSpec.ofChange dowsersChanceWrong)

/-- 'steeninglaw04.DowsersGuess': WHATEVER THE INPUT: true; the input reads as it did. -/
def dowsersGuessSpec : ChangeSpec := { name := "dowsersGuess", fn := fun _ => fun
  | [d1, d2] => { results := [.lit (.bool true)], args := [d1, d2] }
  | _ => none }
def dowsersGuessRow : OpenClaim := { program := "ytmcfibpeenhcnaa", sum := "d877e03f173166f97dd0a2de9ef4ce8162ad67a27ac15ea1d5e63d7fdee1fd74", func := "steening/steeninglaw04.DowsersGuess", spec := "dowsersGuess", unfollowed := true, recurses := true, plainKeys := false, apart := false }
def DowsersGuessSaid : Prop := dowsersGuessRow.holds Try.pinned (OpenSpec.ofChange dowsersGuessSpec)

/-- ITS FALSE NEIGHBOUR: 'it returns false'. Refute it at one input. -/
def dowsersGuessWrong : ChangeSpec := { name := "dowsersGuess", fn := fun _ => fun
  | [d1, d2] => { results := [.lit (.bool false)], args := [d1, d2] }
  | _ => none }
def DowsersGuessWrongFalsely : Prop := dowsersGuessRow.holds Try.pinned (OpenSpec.ofChange dowsersGuessWrong)

/-- 'steeninglaw04.DowsersLess': WHATEVER THE INPUT: true; the input reads as it did. -/
def dowsersLessSpec : ChangeSpec := { name := "dowsersLess", fn := fun _ => fun
  | [d1, d2, d3] => { results := [.lit (.bool true)], args := [d1, d2, d3] }
  | _ => none }
def dowsersLessRow : OpenClaim := { program := "ytmcfibpeenhcnaa", sum := "d877e03f173166f97dd0a2de9ef4ce8162ad67a27ac15ea1d5e63d7fdee1fd74", func := "steening/steeninglaw04.DowsersLess", spec := "dowsersLess", unfollowed := true, recurses := true, plainKeys := false, apart := false }
def DowsersLessSaid : Prop := dowsersLessRow.holds Try.pinned (OpenSpec.ofChange dowsersLessSpec)

/-- ITS FALSE NEIGHBOUR: 'it returns false'. Refute it at one input. -/
def dowsersLessWrong : ChangeSpec := { name := "dowsersLess", fn := fun _ => fun
  | [d1, d2, d3] => { results := [.lit (.bool false)], args := [d1, d2, d3] }
  | _ => none }
def DowsersLessWrongFalsely : Prop := dowsersLessRow.holds Try.pinned (OpenSpec.ofChange dowsersLessWrong)

/-- 'steeninglaw04.DowsersHit': WHATEVER THE INPUT: true; the input reads as it did. -/
def dowsersHitSpec : ChangeSpec := { name := "dowsersHit", fn := fun _ => fun
  | [d1, d2] => { results := [.lit (.bool true)], args := [d1, d2] }
  | _ => none }
def dowsersHitRow : OpenClaim := { program := "ytmcfibpeenhcnaa", sum := "d877e03f173166f97dd0a2de9ef4ce8162ad67a27ac15ea1d5e63d7fdee1fd74", func := "steening/steeninglaw04.DowsersHit", spec := "dowsersHit", unfollowed := true, recurses := true, plainKeys := false, apart := false }
def DowsersHitSaid : Prop := dowsersHitRow.holds Try.pinned (OpenSpec.ofChange dowsersHitSpec)

/-- ITS FALSE NEIGHBOUR: 'it returns false'. Refute it at one input. -/
def dowsersHitWrong : ChangeSpec := { name := "dowsersHit", fn := fun _ => fun
  | [d1, d2] => { results := [.lit (.bool false)], args := [d1, d2] }
  | _ => none }
def DowsersHitWrongFalsely : Prop := dowsersHitRow.holds Try.pinned (OpenSpec.ofChange dowsersHitWrong)

/-- 'steeninglaw04.DowsersPlace': WHATEVER THE INPUT: true; the input reads as it did. -/
def dowsersPlaceSpec : ChangeSpec := { name := "dowsersPlace", fn := fun _ => fun
  | [d1, d2] => { results := [.lit (.bool true)], args := [d1, d2] }
  | _ => none }
def dowsersPlaceRow : OpenClaim := { program := "ytmcfibpeenhcnaa", sum := "d877e03f173166f97dd0a2de9ef4ce8162ad67a27ac15ea1d5e63d7fdee1fd74", func := "steening/steeninglaw04.DowsersPlace", spec := "dowsersPlace", unfollowed := true, recurses := true, plainKeys := false, apart := false }
def DowsersPlaceSaid : Prop := dowsersPlaceRow.holds Try.pinned (OpenSpec.ofChange dowsersPlaceSpec)

/-- ITS FALSE NEIGHBOUR: 'it returns false'. Refute it at one input. -/
def dowsersPlaceWrong : ChangeSpec := { name := "dowsersPlace", fn := fun _ => fun
  | [d1, d2] => { results := [.lit (.bool false)], args := [d1, d2] }
  | _ => none }
def DowsersPlaceWrongFalsely : Prop := dowsersPlaceRow.holds Try.pinned (OpenSpec.ofChange dowsersPlaceWrong)

/-- 'steeninglaw04.DowsersNumbers': WHATEVER THE INPUT: true; the input reads as it did. -/
def dowsersNumbersSpec : ChangeSpec := { name := "dowsersNumbers", fn := fun _ => fun
  | [d1, d2, d3] => { results := [.lit (.bool true)], args := [d1, d2, d3] }
  | _ => none }
def dowsersNumbersRow : OpenClaim := { program := "ytmcfibpeenhcnaa", sum := "d877e03f173166f97dd0a2de9ef4ce8162ad67a27ac15ea1d5e63d7fdee1fd74", func := "steening/steeninglaw04.DowsersNumbers", spec := "dowsersNumbers", unfollowed := true, recurses := true, plainKeys := false, apart := false }
def DowsersNumbersSaid : Prop := dowsersNumbersRow.holds Try.pinned (OpenSpec.ofChange dowsersNumbersSpec)

/-- ITS FALSE NEIGHBOUR: 'it returns false'. Refute it at one input. -/
def dowsersNumbersWrong : ChangeSpec := { name := "dowsersNumbers", fn := fun _ => fun
  | [d1, d2, d3] => { results := [.lit (.bool false)], args := [d1, d2, d3] }
  | _ => none }
def DowsersNumbersWrongFalsely : Prop := dowsersNumbersRow.holds Try.pinned (OpenSpec.ofChange dowsersNumbersWrong)

/-- 'steeninglaw04.DowsersLeads': WHATEVER THE INPUT: true; the input reads as it did. -/
def dowsersLeadsSpec : ChangeSpec := { name := "dowsersLeads", fn := fun _ => fun
  | [d1, d2] => { results := [.lit (.bool true)], args := [d1, d2] }
  | _ => none }
def dowsersLeadsRow : OpenClaim := { program := "ytmcfibpeenhcnaa", sum := "d877e03f173166f97dd0a2de9ef4ce8162ad67a27ac15ea1d5e63d7fdee1fd74", func := "steening/steeninglaw04.DowsersLeads", spec := "dowsersLeads", unfollowed := true, recurses := true, plainKeys := false, apart := false }
def DowsersLeadsSaid : Prop := dowsersLeadsRow.holds Try.pinned (OpenSpec.ofChange dowsersLeadsSpec)

/-- ITS FALSE NEIGHBOUR: 'it returns false'. Refute it at one input. -/
def dowsersLeadsWrong : ChangeSpec := { name := "dowsersLeads", fn := fun _ => fun
  | [d1, d2] => { results := [.lit (.bool false)], args := [d1, d2] }
  | _ => none }
def DowsersLeadsWrongFalsely : Prop := dowsersLeadsRow.holds Try.pinned (OpenSpec.ofChange dowsersLeadsWrong)

/- THE SECOND FORM. 'bulk': how many values and letters a reading holds, each counted each time it is reached (what is shared counts as often as it is met; a slice's spare places count too). A statement '..UptoSaid' is the law's where the arguments, and the package variables that the reading takes, are together of bulk at most 1048576: NARROWER than '..Said'. Prove '..Said' where nothing that the law and all that it calls make is longer than what came in: it says more and counts as full. Else prove '..UptoSaid'. A law counts once. -/
mutual
def uptoBulk {H : Type} : DataW H → Nat
  | .lit (.string bytes) => bytes.length + 1
  | .lit _ => 1
  | .nil => 1
  | .ptr d => uptoBulk d + 1
  | .slice elems spare => uptoBulkAll elems + uptoBulkAll spare + 1
  | .agg parts => uptoBulkAll parts + 1
  | .iface _ d => uptoBulk d + 1
  | .map entries => uptoBulkEntries entries + 1
  | .held _ => 1
def uptoBulkAll {H : Type} : List (DataW H) → Nat
  | [] => 0
  | d :: r => uptoBulk d + uptoBulkAll r
def uptoBulkEntries {H : Type} : List (Lit × DataW H) → Nat
  | [] => 0
  | x :: r => uptoBulkEntry x + uptoBulkEntries r
def uptoBulkEntry {H : Type} : Lit × DataW H → Nat
  | (.string bytes, d) => bytes.length + uptoBulk d + 1
  | (_, d) => uptoBulk d + 1
 end
def uptoSmall : (H : Type) → List (DataW H) → Bool := fun _ ds => decide (uptoBulkAll ds ≤ 1048576)
def OpenSpec.upto (s : _root_.Go.ChangeSpec) : _root_.Go.OpenSpec := { _root_.Go.OpenSpec.ofChange s with cond := some uptoSmall }

/-- 'steeninglaw04.DowsersEach', WHERE WHAT IT READS IS OF BULK AT MOST 1048576: true; the input reads as it did. -/
def dowsersEachUptoRow : OpenClaim := { program := "ytmcfibpeenhcnaa", sum := "d877e03f173166f97dd0a2de9ef4ce8162ad67a27ac15ea1d5e63d7fdee1fd74", func := "steening/steeninglaw04.DowsersEach", spec := "dowsersEach", unfollowed := true, recurses := true, plainKeys := false, apart := false, narrowed := true }
def DowsersEachUptoSaid : Prop := dowsersEachUptoRow.holds Try.pinned (OpenSpec.upto dowsersEachSpec)

/-- 'steeninglaw04.DowsersChances', WHERE WHAT IT READS IS OF BULK AT MOST 1048576: true; the input reads as it did. -/
def dowsersChancesUptoRow : OpenClaim := { program := "ytmcfibpeenhcnaa", sum := "d877e03f173166f97dd0a2de9ef4ce8162ad67a27ac15ea1d5e63d7fdee1fd74", func := "steening/steeninglaw04.DowsersChances", spec := "dowsersChances", unfollowed := true, recurses := true, plainKeys := false, apart := false, narrowed := true }
def DowsersChancesUptoSaid : Prop := dowsersChancesUptoRow.holds Try.pinned (OpenSpec.upto dowsersChancesSpec)

/-- 'steeninglaw04.DowsersPurse', WHERE WHAT IT READS IS OF BULK AT MOST 1048576: true; the input reads as it did. -/
def dowsersPurseUptoRow : OpenClaim := { program := "ytmcfibpeenhcnaa", sum := "d877e03f173166f97dd0a2de9ef4ce8162ad67a27ac15ea1d5e63d7fdee1fd74", func := "steening/steeninglaw04.DowsersPurse", spec := "dowsersPurse", unfollowed := true, recurses := true, plainKeys := false, apart := false, narrowed := true }
def DowsersPurseUptoSaid : Prop := dowsersPurseUptoRow.holds Try.pinned (OpenSpec.upto dowsersPurseSpec)

/-- 'steeninglaw04.DowsersScore', WHERE WHAT IT READS IS OF BULK AT MOST 1048576: true; the input reads as it did. -/
def dowsersScoreUptoRow : OpenClaim := { program := "ytmcfibpeenhcnaa", sum := "d877e03f173166f97dd0a2de9ef4ce8162ad67a27ac15ea1d5e63d7fdee1fd74", func := "steening/steeninglaw04.DowsersScore", spec := "dowsersScore", unfollowed := true, recurses := true, plainKeys := false, apart := false, narrowed := true }
def DowsersScoreUptoSaid : Prop := dowsersScoreUptoRow.holds Try.pinned (OpenSpec.upto dowsersScoreSpec)

/-- 'steeninglaw04.DowsersMany', WHERE WHAT IT READS IS OF BULK AT MOST 1048576: true; the input reads as it did. -/
def dowsersManyUptoRow : OpenClaim := { program := "ytmcfibpeenhcnaa", sum := "d877e03f173166f97dd0a2de9ef4ce8162ad67a27ac15ea1d5e63d7fdee1fd74", func := "steening/steeninglaw04.DowsersMany", spec := "dowsersMany", unfollowed := true, recurses := true, plainKeys := false, apart := false, narrowed := true }
def DowsersManyUptoSaid : Prop := dowsersManyUptoRow.holds Try.pinned (OpenSpec.upto dowsersManySpec)

/-- 'steeninglaw04.DowsersChance', WHERE WHAT IT READS IS OF BULK AT MOST 1048576: true; the input reads as it did. -/
def dowsersChanceUptoRow : OpenClaim := { program := "ytmcfibpeenhcnaa", sum := "d877e03f173166f97dd0a2de9ef4ce8162ad67a27ac15ea1d5e63d7fdee1fd74", func := "steening/steeninglaw04.DowsersChance", spec := "dowsersChance", unfollowed := true, recurses := true, plainKeys := false, apart := false, narrowed := true }
def DowsersChanceUptoSaid : Prop := dowsersChanceUptoRow.holds Try.pinned (OpenSpec.upto dowsersChanceSpec)

/-- 'steeninglaw04.DowsersGuess', WHERE WHAT IT READS IS OF BULK AT MOST 1048576: true; the input reads as it did. -/
def dowsersGuessUptoRow : OpenClaim := { program := "ytmcfibpeenhcnaa", sum := "d877e03f173166f97dd0a2de9ef4ce8162ad67a27ac15ea1d5e63d7fdee1fd74", func := "steening/steeninglaw04.DowsersGuess", spec := "dowsersGuess", unfollowed := true, recurses := true, plainKeys := false, apart := false, narrowed := true }
def DowsersGuessUptoSaid : Prop := dowsersGuessUptoRow.holds Try.pinned (OpenSpec.upto dowsersGuessSpec)

/-- 'steeninglaw04.DowsersLess', WHERE WHAT IT READS IS OF BULK AT MOST 1048576: true; the input reads as it did. -/
def dowsersLessUptoRow : OpenClaim := { program := "ytmcfibpeenhcnaa", sum := "d877e03f173166f97dd0a2de9ef4ce8162ad67a27ac15ea1d5e63d7fdee1fd74", func := "steening/steeninglaw04.DowsersLess", spec := "dowsersLess", unfollowed := true, recurses := true, plainKeys := false, apart := false, narrowed := true }
def DowsersLessUptoSaid : Prop := dowsersLessUptoRow.holds Try.pinned (OpenSpec.upto dowsersLessSpec)

/-- 'steeninglaw04.DowsersHit', WHERE WHAT IT READS IS OF BULK AT MOST 1048576: true; the input reads as it did. -/
def dowsersHitUptoRow : OpenClaim := { program := "ytmcfibpeenhcnaa", sum := "d877e03f173166f97dd0a2de9ef4ce8162ad67a27ac15ea1d5e63d7fdee1fd74", func := "steening/steeninglaw04.DowsersHit", spec := "dowsersHit", unfollowed := true, recurses := true, plainKeys := false, apart := false, narrowed := true }
def DowsersHitUptoSaid : Prop := dowsersHitUptoRow.holds Try.pinned (OpenSpec.upto dowsersHitSpec)

/-- 'steeninglaw04.DowsersPlace', WHERE WHAT IT READS IS OF BULK AT MOST 1048576: true; the input reads as it did. -/
def dowsersPlaceUptoRow : OpenClaim := { program := "ytmcfibpeenhcnaa", sum := "d877e03f173166f97dd0a2de9ef4ce8162ad67a27ac15ea1d5e63d7fdee1fd74", func := "steening/steeninglaw04.DowsersPlace", spec := "dowsersPlace", unfollowed := true, recurses := true, plainKeys := false, apart := false, narrowed := true }
def DowsersPlaceUptoSaid : Prop := dowsersPlaceUptoRow.holds Try.pinned (OpenSpec.upto dowsersPlaceSpec)

/-- 'steeninglaw04.DowsersNumbers', WHERE WHAT IT READS IS OF BULK AT MOST 1048576: true; the input reads as it did. -/
def dowsersNumbersUptoRow : OpenClaim := { program := "ytmcfibpeenhcnaa", sum := "d877e03f173166f97dd0a2de9ef4ce8162ad67a27ac15ea1d5e63d7fdee1fd74", func := "steening/steeninglaw04.DowsersNumbers", spec := "dowsersNumbers", unfollowed := true, recurses := true, plainKeys := false, apart := false, narrowed := true }
def DowsersNumbersUptoSaid : Prop := dowsersNumbersUptoRow.holds Try.pinned (OpenSpec.upto dowsersNumbersSpec)

/-- 'steeninglaw04.DowsersLeads', WHERE WHAT IT READS IS OF BULK AT MOST 1048576: true; the input reads as it did. -/
def dowsersLeadsUptoRow : OpenClaim := { program := "ytmcfibpeenhcnaa", sum := "d877e03f173166f97dd0a2de9ef4ce8162ad67a27ac15ea1d5e63d7fdee1fd74", func := "steening/steeninglaw04.DowsersLeads", spec := "dowsersLeads", unfollowed := true, recurses := true, plainKeys := false, apart := false, narrowed := true }
def DowsersLeadsUptoSaid : Prop := dowsersLeadsUptoRow.holds Try.pinned (OpenSpec.upto dowsersLeadsSpec)

end Rows
end Go.Proofs.Ytmcfibpeenhcnaa
