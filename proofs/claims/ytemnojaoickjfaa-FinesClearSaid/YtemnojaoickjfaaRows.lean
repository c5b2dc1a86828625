/-
  No cell of these rows narrows 'for every input' (looked for: loops, veiled, ifaces, maps, wideKeys, modest, calm, conditions, laid).
  DERIVED. THE GIVEN ROWS OF THIS SEAT. 11 by the template 'for every input the law returns true; each argument reads behind the call as it read before'; 0 by the template 'total and deterministic' (their statements: YtemnojaoickjfaaTotals.lean).
  GIVEN WITH THE SEED: the statements are not yours to turn. If you find one false, say at which input.
  Laid BY PROGRAM, IN A SANDBOX (cutbox-rows.mjs): the forced cells as the released guide's own fill.sh prints them over the translation 6b53c65a54f1ce51… (all of the seat's roots in one cut). By AI agents, Wed Nov 11 2026. No macro, syntax, notation, axiom, sorry.
-/
import Derived.Test.YtemnojaoickjfaaChecked
import GoSem.Claim
import GoSem.ClaimJoined
import GoSem.ClaimMapViews
import Derived.JoinedTies
import Derived.KernelRfl
namespace Go.Proofs.Ytemnojaoickjfaa
/- THE CELL 'sum', in the pinned program and in every row, IS THE sha256 OF THE DUMP (.gsa) THAT YtemnojaoickjfaaProg.lean LOADS. Nothing in Lean hashes anything: it is a label: what it is worth is what the hold of that sum in a sandbox is worth. -/
noncomputable def Try.pinned : Pinned := { name := "ytemnojaoickjfaa", sum := "6b53c65a54f1ce51675b7ed54089a9d81cae0aac10c8a0037cbab423f0d6b44f", checked := Try.checked }
namespace Rows
def none {H : Type} : Left H := { results := [], args := [] }

/-- 'steeninglaw13.FinesDays': WHATEVER THE INPUT: true; the input reads as it did. -/
def finesDaysSpec : ChangeSpec := { name := "finesDays", fn := fun _ => fun
  | [d] => { results := [.lit (.bool true)], args := [d] }
  | _ => none }
def finesDaysRow : OpenClaim := { program := "ytemnojaoickjfaa", sum := "6b53c65a54f1ce51675b7ed54089a9d81cae0aac10c8a0037cbab423f0d6b44f", func := "steening/steeninglaw13.FinesDays", spec := "finesDays", unfollowed := true, recurses := true, plainKeys := false, apart := false }
def FinesDaysSaid : Prop := finesDaysRow.holds Try.pinned (OpenSpec.ofChange finesDaysSpec)

/-- ITS FALSE NEIGHBOUR: 'it returns false'. Refute it at one input. -/
def finesDaysWrong : ChangeSpec := { name := "finesDays", fn := fun _ => fun
  | [d] => { results := [.lit (.bool false)], args := [d] }
  | _ => none }
def FinesDaysWrongFalsely : Prop := finesDaysRow.holds Try.pinned (OpenSpec.ofChange finesDaysWrong)

/-- 'steeninglaw13.FinesPersons': WHATEVER THE INPUT: true; the input reads as it did. -/
def finesPersonsSpec : ChangeSpec := { name := "finesPersons", fn := fun _ => fun
  | [d] => { results := [.lit (.bool true)], args := [d] }
  | _ => none }
def finesPersonsRow : OpenClaim := { program := "ytemnojaoickjfaa", sum := "6b53c65a54f1ce51675b7ed54089a9d81cae0aac10c8a0037cbab423f0d6b44f", func := "steening/steeninglaw13.FinesPersons", spec := "finesPersons", unfollowed := true, recurses := true, plainKeys := false, apart := false }
def FinesPersonsSaid : Prop := finesPersonsRow.holds Try.pinned (OpenSpec.ofChange finesPersonsSpec)

/-- ITS FALSE NEIGHBOUR: 'it returns false'. Refute it at one input. -/
def finesPersonsWrong : ChangeSpec := { name := "finesPersons", fn := fun _ => fun
  | [d] => { results := [.lit (.bool false)], args := [d] }
  | _ => none }
def FinesPersonsWrongFalsely : Prop := finesPersonsRow.holds Try.pinned (OpenSpec.ofChange finesPersonsWrong)

/-- 'steeninglaw13.FinesAlike': WHATEVER THE INPUT: true; the input reads as it did. -/
def finesAlikeSpec : ChangeSpec := { name := "finesAlike", fn := fun _ => fun
  | [d] => { results := [.lit (.bool true)], args := [d] }
  | _ => none }
def finesAlikeRow : OpenClaim := { program := "ytemnojaoickjfaa", sum := "6b53c65a54f1ce51675b7ed54089a9d81cae0aac10c8a0037cbab423f0d6b44f", func := "steening/steeninglaw13.FinesAlike", spec := "finesAlike", unfollowed := true, recurses := true, plainKeys := false, apart := false }
def FinesAlikeSaid : Prop := finesAlikeRow.holds Try.pinned (OpenSpec.ofChange finesAlikeSpec)

/-- ITS FALSE NEIGHBOUR: 'it returns false'. Refute it at one input. -/
def finesAlikeWrong : ChangeSpec := { name := "finesAlike", fn := fun _ => fun
  | [d] => { results := [.lit (.bool false)], args := [d] }
  | _ => none }
def FinesAlikeWrongFalsely : Prop := finesAlikeRow.holds Try.pinned (OpenSpec.ofChange finesAlikeWrong)

/-- 'steeninglaw13.FinesOwed': WHATEVER THE INPUT: true; the input reads as it did. -/
def finesOwedSpec : ChangeSpec := { name := "finesOwed", fn := fun _ => fun
  | [d1, d2] => { results := [.lit (.bool true)], args := [d1, d2] }
  | _ => none }
def finesOwedRow : OpenClaim := { program := "ytemnojaoickjfaa", sum := "6b53c65a54f1ce51675b7ed54089a9d81cae0aac10c8a0037cbab423f0d6b44f", func := "steening/steeninglaw13.FinesOwed", spec := "finesOwed", unfollowed := true, recurses := true, plainKeys := false, apart := false }
def FinesOwedSaid : Prop := finesOwedRow.holds Try.pinned (OpenSpec.ofChange finesOwedSpec)

/-- ITS FALSE NEIGHBOUR: 'it returns false'. Refute it at one input. -/
def finesOwedWrong : ChangeSpec := { name := "finesOwed", fn := fun _ => fun
  | [d1, d2] => { results := [.lit (.bool false)], args := [d1, d2] }
  | _ => none }
def FinesOwedWrongFalsely : Prop := finesOwedRow.holds Try.pinned (OpenSpec.ofChange finesOwedWrong)

/-- 'steeninglaw13.FinesLater': WHATEVER THE INPUT: true; the input reads as it did. -/
def finesLaterSpec : ChangeSpec := { name := "finesLater", fn := fun _ => fun
  | [d1, d2, d3] => { results := [.lit (.bool true)], args := [d1, d2, d3] }
  | _ => none }
def finesLaterRow : OpenClaim := { program := "ytemnojaoickjfaa", sum := "6b53c65a54f1ce51675b7ed54089a9d81cae0aac10c8a0037cbab423f0d6b44f", func := "steening/steeninglaw13.FinesLater", spec := "finesLater", unfollowed := true, recurses := true, plainKeys := false, apart := false }
def FinesLaterSaid : Prop := finesLaterRow.holds Try.pinned (OpenSpec.ofChange finesLaterSpec)

/-- ITS FALSE NEIGHBOUR: 'it returns false'. Refute it at one input. -/
def finesLaterWrong : ChangeSpec := { name := "finesLater", fn := fun _ => fun
  | [d1, d2, d3] => { results := [.lit (.bool false)], args := [d1, d2, d3] }
  | _ => none }
def FinesLaterWrongFalsely : Prop := finesLaterRow.holds Try.pinned (OpenSpec.ofChange finesLaterWrong)

/-- 'steeninglaw13.FinesClear': WHATEVER THE INPUT: true; the input reads as it did. -/
def finesClearSpec : ChangeSpec := { name := "finesClear", fn := fun _ => fun
  | [d1, d2] => { results := [.lit (.bool true)], args := [d1, d2] }
  | _ => none }
def finesClearRow : OpenClaim := { program := "ytemnojaoickjfaa", sum := "6b53c65a54f1ce51675b7ed54089a9d81cae0aac10c8a0037cbab423f0d6b44f", func := "steening/steeninglaw13.FinesClear", spec := "finesClear", unfollowed := true, recurses := true, plainKeys := false, apart := false }
def FinesClearSaid : Prop := finesClearRow.holds Try.pinned (OpenSpec.ofChange finesClearSpec)

/-- ITS FALSE NEIGHBOUR: 'it returns false'. Refute it at one input. -/
def finesClearWrong : ChangeSpec := { name := "finesClear", fn := fun _ => fun
  | [d1, d2] => { results := [.lit (.bool false)], args := [d1, d2] }
  | _ => none }
def FinesClearWrongFalsely : Prop := finesClearRow.holds Try.pinned (OpenSpec.ofChange finesClearWrong)

/-- 'steeninglaw13.FinesLess': WHATEVER THE INPUT: true; the input reads as it did. -/
def finesLessSpec : ChangeSpec := { name := "finesLess", fn := fun _ => fun
  | [d1, d2, d3] => { results := [.lit (.bool true)], args := [d1, d2, d3] }
  | _ => none }
def finesLessRow : OpenClaim := { program := "ytemnojaoickjfaa", sum := "6b53c65a54f1ce51675b7ed54089a9d81cae0aac10c8a0037cbab423f0d6b44f", func := "steening/steeninglaw13.FinesLess", spec := "finesLess", unfollowed := true, recurses := true, plainKeys := false, apart := false }
def FinesLessSaid : Prop := finesLessRow.holds Try.pinned (OpenSpec.ofChange finesLessSpec)

/-- ITS FALSE NEIGHBOUR: 'it returns false'. Refute it at one input. -/
def finesLessWrong : ChangeSpec := { name := "finesLess", fn := fun _ => fun
  | [d1, d2, d3] => { results := [.lit (.bool false)], args := [d1, d2, d3] }
  | _ => none }
def FinesLessWrongFalsely : Prop := finesLessRow.holds Try.pinned (OpenSpec.ofChange finesLessWrong)

/-- 'steeninglaw13.FinesSame': WHATEVER THE INPUT: true; the input reads as it did. -/
def finesSameSpec : ChangeSpec := { name := "finesSame", fn := fun _ => fun
  | [d1, d2, d3] => { results := [.lit (.bool true)], args := [d1, d2, d3] }
  | _ => none }
def finesSameRow : OpenClaim := { program := "ytemnojaoickjfaa", sum := "6b53c65a54f1ce51675b7ed54089a9d81cae0aac10c8a0037cbab423f0d6b44f", func := "steening/steeninglaw13.FinesSame", spec := "finesSame", unfollowed := true, recurses := true, plainKeys := false, apart := false }
def FinesSameSaid : Prop := finesSameRow.holds Try.pinned (OpenSpec.ofChange finesSameSpec)

/-- ITS FALSE NEIGHBOUR: 'it returns false'. Refute it at one input. -/
def finesSameWrong : ChangeSpec := { name := "finesSame", fn := fun _ => fun
  | [d1, d2, d3] => { results := [.lit (.bool false)], args := [d1, d2, d3] }
  | _ => none }
def FinesSameWrongFalsely : Prop := finesSameRow.holds Try.pinned (OpenSpec.ofChange finesSameWrong)

/-- 'steeninglaw13.FinesEach': WHATEVER THE INPUT: true; the input reads as it did. -/
def finesEachSpec : ChangeSpec := { name := "finesEach", fn := fun _ => fun
  | [d1, d2] => { results := [.lit (.bool true)], args := [d1, d2] }
  | _ => none }
def finesEachRow : OpenClaim := { program := "ytemnojaoickjfaa", sum := "6b53c65a54f1ce51675b7ed54089a9d81cae0aac10c8a0037cbab423f0d6b44f", func := "steening/steeninglaw13.FinesEach", spec := "finesEach", unfollowed := true, recurses := true, plainKeys := false, apart := false }
def FinesEachSaid : Prop := finesEachRow.holds Try.pinned (OpenSpec.ofChange finesEachSpec)

/-- ITS FALSE NEIGHBOUR: 'it returns false'. Refute it at one input. -/
def finesEachWrong : ChangeSpec := { name := "finesEach", fn := fun _ => fun
  | [d1, d2] => { results := [.lit (.bool false)], args := [d1, d2] }
  | _ => none }
def FinesEachWrongFalsely : Prop := finesEachRow.holds Try.pinned (OpenSpec.ofChange finesEachWrong)

/-- 'steeninglaw13.FinesMust': WHATEVER THE INPUT: true; the input reads as it did. -/
def finesMustSpec : ChangeSpec := { name := "finesMust", fn := fun _ => fun
  | [d1, d2] => { results := [.lit (.bool true)], args := [d1, d2] }
  | _ => none }
def finesMustRow : OpenClaim := { program := "ytemnojaoickjfaa", sum := "6b53c65a54f1ce51675b7ed54089a9d81cae0aac10c8a0037cbab423f0d6b44f", func := "steening/steeninglaw13.FinesMust", spec := "finesMust", unfollowed := true, recurses := true, plainKeys := false, apart := false }
def FinesMustSaid : Prop := finesMustRow.holds Try.pinned (OpenSpec.ofChange finesMustSpec)

/-- ITS FALSE NEIGHBOUR: 'it returns false'. Refute it at one input. -/
def finesMustWrong : ChangeSpec := { name := "finesMust", fn := fun _ => fun
  | [d1, d2] => { results := [.lit (.bool false)], args := [d1, d2] }
  | _ => none }
def FinesMustWrongFalsely : Prop := finesMustRow.holds Try.pinned (OpenSpec.ofChange finesMustWrong)

/-- 'steeninglaw13.FinesTurned': WHATEVER THE INPUT: true; the input reads as it did. -/
def finesTurnedSpec : ChangeSpec := { name := "finesTurned", fn := fun _ => fun
  | [d1, d2] => { results := [.lit (.bool true)], args := [d1, d2] }
  | _ => none }
def finesTurnedRow : OpenClaim := { program := "ytemnojaoickjfaa", sum := "6b53c65a54f1ce51675b7ed54089a9d81cae0aac10c8a0037cbab423f0d6b44f", func := "steening/steeninglaw13.FinesTurned", spec := "finesTurned", unfollowed := true, recurses := true, plainKeys := false, apart := false }
def FinesTurnedSaid : Prop := finesTurnedRow.holds Try.pinned (OpenSpec.ofChange finesTurnedSpec)

/-- ITS FALSE NEIGHBOUR: 'it returns false'. Refute it at one input. -/
def finesTurnedWrong : ChangeSpec := { name := "finesTurned", fn := fun _ => fun
  | [d1, d2] => { results := [.lit (.bool false)], args := [d1, d2] }
  | _ => none }
def FinesTurnedWrongFalsely : Prop := finesTurnedRow.holds Try.pinned (OpenSpec.ofChange finesTurnedWrong)

/- THE SECOND FORM. 'bulk': how many values and letters a reading holds, each counted each time it is reached (what is shared counts as often as it is met; a slice's spare places count too). A statement '..UptoSaid' is the law's where the arguments, and the package variables that the reading takes, are together of bulk at most 1048576: NARROWER than '..Said'. Prove '..Said' where nothing that the law and all that it calls make is longer than what came in: it says more and counts as full. Else prove '..UptoSaid'. A law counts once. -/
mutual
def uptoBulk {H : Type} : DataW H → Nat
  | .lit (.string bytes) => bytes.length + 1
  | .lit _ => 1
  | .nil => 1
  | .ptr d => uptoBulk d + 1
  | .slice elems spare => uptoBulkAll elems + uptoBulkAll spare + 1
  | .agg parts => uptoBulkAll parts + 1
  | .iface _ d => uptoBulk d + 1
  | .map entries => uptoBulkEntries entries + 1
  | .held _ => 1
def uptoBulkAll {H : Type} : List (DataW H) → Nat
  | [] => 0
  | d :: r => uptoBulk d + uptoBulkAll r
def uptoBulkEntries {H : Type} : List (Lit × DataW H) → Nat
  | [] => 0
  | x :: r => uptoBulkEntry x + uptoBulkEntries r
def uptoBulkEntry {H : Type} : Lit × DataW H → Nat
  | (.string bytes, d) => bytes.length + uptoBulk d + 1
  | (_, d) => uptoBulk d + 1
 end
def uptoSmall : (H : Type) → List (DataW H) → Bool := fun _ ds => decide (uptoBulkAll ds ≤ 1048576)
def OpenSpec.upto (s : _root_.Go.ChangeSpec) : _root_.Go.OpenSpec := { _root_.Go.OpenSpec.ofChange s with cond := some uptoSmall }

/-- 'steeninglaw13.FinesDays', WHERE WHAT IT READS IS OF BULK AT MOST 1048576: true; the input reads as it did. -/
def finesDaysUptoRow : OpenClaim := { program := "ytemnojaoickjfaa", sum := "6b53c65a54f1ce51675b7ed54089a9d81cae0aac10c8a0037cbab423f0d6b44f", func := "steening/steeninglaw13.FinesDays", spec := "finesDays", unfollowed := true, recurses := true, plainKeys := false, apart := false, narrowed := true }
def FinesDaysUptoSaid : Prop := finesDaysUptoRow.holds Try.pinned (OpenSpec.upto finesDaysSpec)

/-- 'steeninglaw13.FinesPersons', WHERE WHAT IT READS IS OF BULK AT MOST 1048576: true; the input reads as it did. -/
def finesPersonsUptoRow : OpenClaim := { program := "ytemnojaoickjfaa", sum := "6b53c65a54f1ce51675b7ed54089a9d81cae0aac10c8a0037cbab423f0d6b44f", func := "steening/steeninglaw13.FinesPersons", spec := "finesPersons", unfollowed := true, recurses := true, plainKeys := false, apart := false, narrowed := true }
def FinesPersonsUptoSaid : Prop := finesPersonsUptoRow.holds Try.pinned (OpenSpec.upto finesPersonsSpec)

/-- 'steeninglaw13.FinesAlike', WHERE WHAT IT READS IS OF BULK AT MOST 1048576: true; the input reads as it did. -/
def finesAlikeUptoRow : OpenClaim := { program := "ytemnojaoickjfaa", sum := "6b53c65a54f1ce51675b7ed54089a9d81cae0aac10c8a0037cbab423f0d6b44f", func := "steening/steeninglaw13.FinesAlike", spec := "finesAlike", unfollowed := true, recurses := true, plainKeys := false, apart := false, narrowed := true }
def FinesAlikeUptoSaid : Prop := finesAlikeUptoRow.holds Try.pinned (OpenSpec.upto finesAlikeSpec)

/-- 'steeninglaw13.FinesOwed', WHERE WHAT IT READS IS OF BULK AT MOST 1048576: true; the input reads as it did. -/
def finesOwedUptoRow : OpenClaim := { program := "ytemnojaoickjfaa", sum := "6b53c65a54f1ce51675b7ed54089a9d81cae0aac10c8a0037cbab423f0d6b44f", func := "steening/steeninglaw13.FinesOwed", spec := "finesOwed", unfollowed := true, recurses := true, plainKeys := false, apart := false, narrowed := true }
def FinesOwedUptoSaid : Prop := finesOwedUptoRow.holds Try.pinned (OpenSpec.upto finesOwedSpec)

/-- 'steeninglaw13.FinesLater', WHERE WHAT IT READS IS OF BULK AT MOST 1048576: true; the input reads as it did. -/
def finesLaterUptoRow : OpenClaim := { program := "ytemnojaoickjfaa", sum := "6b53c65a54f1ce51675b7ed54089a9d81cae0aac10c8a0037cbab423f0d6b44f", func := "steening/steeninglaw13.FinesLater", spec := "finesLater", unfollowed := true, recurses := true, plainKeys := false, apart := false, narrowed := true }
def FinesLaterUptoSaid : Prop := finesLaterUptoRow.holds Try.pinned (OpenSpec.upto finesLaterSpec)

/-- 'steeninglaw13.FinesClear', WHERE WHAT IT READS IS OF BULK AT MOST 1048576: true; the input reads as it did. -/
def finesClearUptoRow : OpenClaim := { program := "ytemnojaoickjfaa", sum := "6b53c65a54f1ce51675b7ed54089a9d81cae0aac10c8a0037cbab423f0d6b44f", func := "steening/steeninglaw13.FinesClear", spec := "finesClear", unfollowed := true, recurses := true, plainKeys := false, apart := false, narrowed := true }
def FinesClearUptoSaid : Prop := finesClearUptoRow.holds Try.pinned (OpenSpec.upto finesClearSpec)

/-- 'steeninglaw13.FinesLess', WHERE WHAT IT READS IS OF BULK AT MOST 1048576: true; the input reads as it did. -/
def finesLessUptoRow : OpenClaim := { program := "ytemnojaoickjfaa", sum := "6b53c65a54f1ce51675b7ed54089a9d81cae0aac10c8a0037cbab423f0d6b44f", func := "steening/steeninglaw13.FinesLess", spec := "finesLess", unfollowed := true, recurses := true, plainKeys := false, apart := false, narrowed := true }
def FinesLessUptoSaid : Prop := finesLessUptoRow.holds Try.pinned (OpenSpec.upto finesLessSpec)

/-- 'steeninglaw13.FinesSame', WHERE WHAT IT READS IS OF BULK AT MOST 1048576: true; the input reads as it did. -/
def finesSameUptoRow : OpenClaim := { program := "ytemnojaoickjfaa", sum := "6b53c65a54f1ce51675b7ed54089a9d81cae0aac10c8a0037cbab423f0d6b44f", func := "steening/steeninglaw13.FinesSame", spec := "finesSame", unfollowed := true, recurses := true, plainKeys := false, apart := false, narrowed := true }
def FinesSameUptoSaid : Prop := finesSameUptoRow.holds Try.pinned (OpenSpec.upto finesSameSpec)

/-- 'steeninglaw13.FinesEach', WHERE WHAT IT READS IS OF BULK AT MOST 1048576: true; the input reads as it did. -/
def finesEachUptoRow : OpenClaim := { program := "ytemnojaoickjfaa", sum := "6b53c65a54f1ce51675b7ed54089a9d81cae0aac10c8a0037cbab423f0d6b44f", func := "steening/steeninglaw13.FinesEach", spec := "finesEach", unfollowed := true, recurses := true, plainKeys := false, apart := false, narrowed := true }
def FinesEachUptoSaid : Prop := finesEachUptoRow.holds Try.pinned (OpenSpec.upto finesEachSpec)

/-- 'steeninglaw13.FinesMust', WHERE WHAT IT READS IS OF BULK AT MOST 1048576: true; the input reads as it did. -/
def finesMustUptoRow : OpenClaim := { program := "ytemnojaoickjfaa", sum := "6b53c65a54f1ce51675b7ed54089a9d81cae0aac10c8a0037cbab423f0d6b44f", func := "steening/steeninglaw13.FinesMust", spec := "finesMust", unfollowed := true, recurses := true, plainKeys := false, apart := false, narrowed := true }
def FinesMustUptoSaid : Prop := finesMustUptoRow.holds Try.pinned (OpenSpec.upto finesMustSpec)

/-- 'steeninglaw13.FinesTurned', WHERE WHAT IT READS IS OF BULK AT MOST 1048576: true; the input reads as it did. -/
def finesTurnedUptoRow : OpenClaim := { program := "ytemnojaoickjfaa", sum := "6b53c65a54f1ce51675b7ed54089a9d81cae0aac10c8a0037cbab423f0d6b44f", func := "steening/steeninglaw13.FinesTurned", spec := "finesTurned", unfollowed := true, recurses := true, plainKeys := false, apart := false, narrowed := true }
def FinesTurnedUptoSaid : Prop := finesTurnedUptoRow.holds Try.pinned (OpenSpec.upto finesTurnedSpec)

end Rows
end Go.Proofs.Ytemnojaoickjfaa
